/-
  Of the functions that this law reaches, part 2: what they answer. No condition.
-/
import Derived.Test.YtjeemgaoonapgaaRP1
import Derived.Test.YtjeemgaoonapgaaRP0
import Derived.WideKeyPair
set_option linter.unusedVariables false
set_option linter.unusedSimpArgs false
namespace Go.Proofs.Ytjeemgaoonapgaa.Ev
open Go Go.AEv
attribute [local simp] evFunc initS evOps_c evTrim_c evSkip_c evExit_c evRet_c evSeq_c evCond_c evBlock_c evDraw_c runOps_n runOps_c exec_n exec_g pure1_c act AOpd.ev T.get T.set T.put evBin evUn forceT_eq forceV_eq forceL_eq evRess evRes one keep runFP_n runFP_c app_none AV.flats AV.flat came_some List.getElem?_cons_zero List.getElem?_cons_succ beqT wrapI idxI tdivI tmodI decT decF ibT ibF inT inF evScope_c if_pos if_neg Cm_some thenW_n thenW_e thenW_r blkW_n blkW_e blkW_r goI kn putAt AV.cells fillA loadA takeA mk Eff.isAll Eff.isNone Eff.commutes Eff.spares okPair apart eqAgg fits LK.fits allEq aveq eqk mmA
theorem TB.both {A B : Heap} {b : Nat} {X : AObj} {x : AV} {R : List (List AV)} (t : TB A B x R) (hN : A.N ≤ b) (hb : b < A.size) : TB (A.upd b X) (B.upd b X) x R := by
  have hNB : B.N ≤ b := by rw [t.k.N]; exact hN
  obtain ⟨rs, lv, hl, hr⟩ := t.r
  refine ⟨Kp.both t.k hN hb, fun q hq => by rw [upd_size]; exact t.x0 q hq, rs, lv.kp (Kp.upd (M := fun i => i = b) B b X hNB rfl) (fun q hq e => by have := t.x0 q hq; omega), hl, fun i r hi => ?_⟩
  obtain ⟨cs, b', h1, h2, h3, h4, h5⟩ := hr i r hi
  refine ⟨cs, b', h1, h2, ?_, h4, by rw [upd_size]; exact h5⟩
  rw [upd_ne _ _ _ _ hNB (by omega)]
  exact h3
section
variable {M : List (List Int)}
def FB (M : List (List Int)) (P : List Nat) (i x y : Nat) (b : Bool) : Prop := b = true ↔ clN M i = i ∧ i ∉ P ∧ ∀ u v, (u < x ∨ (u = x ∧ v < y)) → 0 < ent M u v → clN M v = i → clN M u ≠ i → clN M u ∈ P
theorem FB.no {P : List Nat} {i x y x' y' : Nat} (l : FB M P i x y false) (h : x < x' ∨ (x = x' ∧ y ≤ y')) : FB M P i x' y' false :=
  ⟨fun e => (by cases e), fun ⟨a, a2, b⟩ => l.2 ⟨a, a2, fun u v c => b u v (by omega)⟩⟩
theorem FB.keep {P : List Nat} {i x y : Nat} (l : FB M P i x y true) (h : 0 < ent M x y → clN M y = i → clN M x ≠ i → clN M x ∈ P) : FB M P i x (y + 1) true :=
  ⟨fun e => ⟨(l.1 e).1, (l.1 e).2.1, fun u v c => by
    by_cases cc : u = x ∧ v = y
    · rw [cc.1, cc.2]; exact h
    · exact (l.1 e).2.2 u v (by omega)⟩, fun _ => rfl⟩
theorem FB.nextx (hm : isMat M = true) {P : List Nat} {i x : Nat} {b : Bool} (l : FB M P i x M.length b) : FB M P i (x + 1) 0 b :=
  ⟨fun e => ⟨(l.1 e).1, (l.1 e).2.1, fun u v c e2 => (l.1 e).2.2 u v (by have := (ent_lt hm e2).2; omega) e2⟩, fun ⟨a, a2, c⟩ => l.2 ⟨a, a2, fun u v d => c u v (by omega)⟩⟩
theorem FB.done (hm : isMat M = true) {P : List Nat} {i : Nat} {b : Bool} (l : FB M P i M.length 0 b) : b = true ↔ cand M P i :=
  l.trans ⟨fun ⟨a, a2, c⟩ => ⟨a, a2, fun u v e => c u v (.inl (ent_lt hm e).1) e⟩, fun ⟨a, a2, c⟩ => ⟨a, a2, fun u v _ => c u v⟩⟩
theorem FB.init {P : List Nat} {i : Nat} {b : Bool} (h : b = true ↔ clN M i = i ∧ i ∉ P) : FB M P i 0 0 b := h.trans ⟨fun a => ⟨a.1, a.2, fun u v c => absurd c (by omega)⟩, fun a => ⟨a.1, a.2.1⟩⟩
def plC (P : List Nat) (n : Nat) : List AV := bls (fun z => decide (z ∈ P)) n
structure S53 (Hb h : Heap) (M : List (List Int)) (P : List Nat) (x6 : AV) : Prop where
  e : ∃ A, Kp (fun _ => False) Hb A ∧ Hb.size < A.size ∧ A.get Hb.size = .cells 1 M.length (plC P M.length) ∧ TB A h x6 (bkC M P)
theorem plC_set (P : List Nat) {n c : Nat} (hc : c < n) : (plC P n).set c (.bool true) = plC (P ++ [c]) n := by
  unfold plC
  rw [bls_set _ _ _ _ hc]
  apply bls_ext
  intro z hz
  by_cases e : z = c
  · subst e; simp
  · simp [e]
theorem S53.gp {Hb h : Heap} {P : List Nat} {x6 : AV} (t : S53 Hb h M P x6) : h.get Hb.size = .cells 1 M.length (plC P M.length) := by
  obtain ⟨A, k, sz, g, tb⟩ := t
  exact tb.k.at g (by simp) id
theorem S53.kp {Hb h : Heap} {P : List Nat} {x6 : AV} (t : S53 Hb h M P x6) : Kp (fun _ => False) Hb h := by
  obtain ⟨A, k, sz, g, tb⟩ := t
  exact k.trans tb.k
theorem S53.add {Hb H h : Heap} {P : List Nat} {x6 x11 : AV} {c : Nat} (t : S53 Hb H M P x6) (ng : NG H h x11 (cmL M c M.length)) (hc : clN M c = c) (hcn : c < M.length) (hP : P.length ≤ 8) :
    ∃ b n, x11 = .slice b 0 n n ∧ ∃ x1 e h2 h3, appA (h.plus [.cells 1 1 [.slice b 0 n n]]) h.size none 1 24 1 [.slice b 0 n n] x6 = some (x1, e) ∧ Eff.app e (h.plus [.cells 1 1 [.slice b 0 n n]]) = some h2 ∧ Eff.app (.put Hb.size M.length c [.bool true]) h2 = some h3 ∧ S53 Hb h3 M (P ++ [c]) x1 ∧ AV.cells x1 = some [x1] := by
  obtain ⟨A, k, sz, g, tb⟩ := t
  obtain ⟨b, rfl, gb⟩ := ng.l.sl (by
    intro e
    have : cmL M c M.length = [] := by simpa using e
    exact cmL_pos hc hcn this)
  have hb := ng.x0 b rfl
  have tb2 := tb.kp ng.k
  have hx : blk x6 ≠ some b := fun e => by
    obtain ⟨rs, lv, _⟩ := tb.r
    have := lv.lt e
    omega
  obtain ⟨x1, e, h2, q1, q2, q3, q4⟩ := tb2.app h.size gb ⟨hx, by have := tb.k.size; omega⟩ (by rw [bkC_len]; omega)
  rw [← bkC_s] at q3
  have g2 := q3.k.at g (by simp) id
  have hN : A.N ≤ Hb.size := by rw [k.N]; unfold Heap.size; omega
  have hN2 : h2.N ≤ Hb.size := by rw [q3.k.N]; exact hN
  have p := put_gen h2 Hb.size M.length c 1 (plC P M.length) [.bool true] hN2 g2 (by rw [show (plC P M.length).length = M.length from bls_len _ _]; show c + 1 ≤ M.length; omega)
  rw [show putAt (plC P M.length) c [.bool true] = plC (P ++ [c]) M.length from plC_set P hcn] at p
  refine ⟨b, _, rfl, x1, e, h2, _, q1, q2, p, ⟨A.upd Hb.size (.cells 1 M.length (plC (P ++ [c]) M.length)), k.updn _ _ hN (Nat.le_refl _), by rw [upd_size]; exact sz, upd_same _ _ _ hN sz, q3.both hN sz⟩, q4⟩
end
def Post53 (a : AM) (h : Heap) (v : AV) (own : List AObj) : Prop := TB h (h.plus own) v (bkC a.M (seqB a.M))
noncomputable def T32 : CallF := addK tbl T31 53 PreO Post53
theorem t32 : Sound Go.Proofs.Try.prog T32 := Sound.addK follows ok t31 (by decide) _ _
section
variable {M : List (List Int)}
theorem pi_ex (hm : isMat M = true) {i : Nat} (hi : i < M.length) : ∀ x, x ≤ M.length → ∃ p, PI M i (dsN M i) x 0 p
  | 0, _ => ⟨0, PI.init⟩
  | x + 1, hx => by
    obtain ⟨p, l⟩ := pi_ex hm hi x (by omega)
    have h8 := isMat_n hm
    have : ∀ y, y ≤ M.length → ∃ p, PI M i (dsN M i) x y p := fun y => by
      induction y with
      | zero => intro _; exact ⟨p, l⟩
      | succ y ih =>
        intro hy
        obtain ⟨p, l⟩ := ih (by omega)
        by_cases c : Mu M i x ∧ Mu M i y ∧ 0 < ent M x y
        · obtain ⟨c1, c2, c3⟩ := c
          obtain ⟨d1, a1, _, b1⟩ := ds_mu hm hi c1
          obtain ⟨d2, a2, _, b2⟩ := ds_mu hm hi c2
          exact ⟨_, l.take (fun z m => by obtain ⟨d, a, b, _⟩ := ds_mu hm hi m; exact ⟨d, a, b⟩) c1 c2 c3 (by omega)⟩
        · exact ⟨p, l.skip c⟩
    obtain ⟨p, l⟩ := this M.length (Nat.le_refl _)
    exact ⟨p, l.nextx hm⟩
theorem perN_ok (hm : isMat M = true) {i : Nat} (hi : i < M.length) : PerS M i (perN M i) := by
  obtain ⟨p, l⟩ := pi_ex hm hi M.length (Nat.le_refl _)
  have h := l.done hm (ds_0 i) (fun z m => by obtain ⟨d, a, b, _⟩ := ds_mu hm hi m; exact ⟨d, a, b⟩)
  rw [perN_eq h]; exact h
open Classical in
noncomputable def lyV (M : List (List Int)) (i z : Nat) : Int := if clN M z = clN M i then dsN M i z % (perN M i : Int) else -1
noncomputable def lyL (M : List (List Int)) (i : Nat) : List Int := lf (lyV M i) M.length
end
structure AL where
  M : List (List Int)
  y : AV
  i : Int
def PreL (a : AL) (args : List AV) (h : Heap) : Prop := MR h a.y a.M ∧ args = [a.y, G a.i]
def inL (a : AL) : Prop := isMat a.M = true ∧ 0 ≤ a.i ∧ a.i < a.M.length
def Post38 (a : AL) (h : Heap) (v : AV) (own : List AObj) : Prop := (¬ inL a → v = .tup [.nils, G 2] ∧ own = []) ∧ (inL a → perN a.M a.i.toNat = 0 → v = .tup [.nils, G 6] ∧ own = []) ∧ (inL a → perN a.M a.i.toNat ≠ 0 → ∃ w, v = .tup [w, G 0] ∧ NG h (h.plus own) w (lyL a.M a.i.toNat))
noncomputable def T33 : CallF := addK tbl T32 38 PreL Post38
theorem t33 : Sound Go.Proofs.Try.prog T33 := Sound.addK follows ok t32 (by decide) _ _
section
variable {M : List (List Int)}
end
def Post42 (a : AI) (h : Heap) (v : AV) (own : List AObj) : Prop := (perN a.M a.i = 0 ∧ v = .tup [.nils, .bool false] ∧ own = []) ∨ (perN a.M a.i ≠ 0 ∧ ∃ w, v = .tup [w, .bool true] ∧ NG h (h.plus own) w (lyL a.M a.i))
noncomputable def T34 : CallF := addK tbl T33 42 PreI Post42
theorem t34 : Sound Go.Proofs.Try.prog T34 := Sound.addK follows ok t33 (by decide) _ _
section
variable {M : List (List Int)}
def cyc (M : List (List Int)) (i c : Nat) : Prop := 1 ≤ c ∧ c ≤ M.length ∧ cw M i c i = true ∧ ∀ k, 1 ≤ k → k < c → cw M i k i = false
theorem cyc_or (M : List (List Int)) (i : Nat) : (∃ c, cyc M i c) ∨ ∀ k, 1 ≤ k → k ≤ M.length → cw M i k i = false := by
  have : ∀ m, m ≤ M.length → (∃ c, cyc M i c) ∨ ∀ k, 1 ≤ k → k ≤ m → cw M i k i = false := fun m => by
    induction m with
    | zero => intro _; exact .inr fun k h1 h2 => by omega
    | succ m ih =>
      intro hm
      rcases ih (by omega) with h | h
      · exact .inl h
      · cases c : cw M i (m + 1) i
        · exact .inr fun k h1 h2 => by
            by_cases e : k = m + 1
            · subst e; exact c
            · exact h k h1 (by omega)
        · exact .inl ⟨m + 1, by omega, hm, c, fun k h1 h2 => h k h1 (by omega)⟩
  exact this M.length (Nat.le_refl _)
end
def noCyc (M : List (List Int)) (i : Nat) : Prop := ∀ k, 1 ≤ k → k ≤ M.length → cw M i k i = false
def Post37 (a : AL) (h : Heap) (v : AV) (own : List AObj) : Prop := (¬ inL a → v = .tup [.nils, G 2] ∧ own = []) ∧ (inL a → (noCyc a.M a.i.toNat ∧ v = .tup [.nils, G 6] ∧ own = []) ∨ (∃ c, cyc a.M a.i.toNat c ∧ ∃ w, v = .tup [w, G 0] ∧ NG h (h.plus own) w (wkL a.M a.i.toNat a.i.toNat c)))
noncomputable def T35 : CallF := addK tbl T34 37 PreL Post37
theorem t35 : Sound Go.Proofs.Try.prog T35 := Sound.addK follows ok t34 (by decide) _ _
def Post41 (a : AI) (h : Heap) (v : AV) (own : List AObj) : Prop := (noCyc a.M a.i ∧ v = .tup [.nils, .bool false] ∧ own = []) ∨ (∃ c, cyc a.M a.i c ∧ ∃ w, v = .tup [w, .bool true] ∧ NG h (h.plus own) w (wkL a.M a.i a.i c))
noncomputable def T36 : CallF := addK tbl T35 41 PreI Post41
theorem t36 : Sound Go.Proofs.Try.prog T36 := Sound.addK follows ok t35 (by decide) _ _
section
variable {M : List (List Int)}
theorem noCyc_wk (hm : isMat M = true) {i : Nat} (hi : i < M.length) (h : noCyc M i) : ∀ k, Wk M k i i → k = 0
  | 0, _ => rfl
  | k + 1, w => by
    obtain ⟨v, e, w'⟩ := w
    obtain ⟨d, hd, wd⟩ := Rc.short hm (ent_lt hm e).2 ⟨k, w'⟩
    have := (cw_iff hm).2 (show Wk M (d + 1) i i from ⟨v, e, wd⟩)
    rw [h (d + 1) (by omega) (by omega)] at this
    cases this
theorem noCyc_per (hm : isMat M = true) {i : Nat} (hi : i < M.length) (h : noCyc M i) : perN M i = 0 := by
  have p := perN_ok hm hi
  have := p.2 0 fun k w => by rw [noCyc_wk hm hi h k w]; exact Nat.dvd_refl 0
  exact Nat.eq_zero_of_zero_dvd this
theorem wlk_ln (j : Nat) : ∀ t u, (wlk M j t u).length = t
  | 0, _ => rfl
  | t + 1, u => by show (wlk M j t _).length + 1 = t + 1; rw [wlk_ln j t]
end
end Go.Proofs.Ytjeemgaoonapgaa.Ev
set_option linter.unusedVariables false
set_option linter.unusedSimpArgs false
namespace Go.Proofs.Ytjeemgaoonapgaa.Ev
open Go Go.AEv
def mxN (f : Nat → Nat) : Nat → Nat
  | 0 => 0
  | k + 1 => if mxN f k < f k then f k else mxN f k
theorem mxN_ge {f : Nat → Nat} : ∀ {k j}, j < k → f j ≤ mxN f k
  | 0, j, h => by omega
  | k + 1, j, h => by
    unfold mxN
    by_cases e : j = k
    · subst e; split <;> omega
    · have := mxN_ge (f := f) (k := k) (j := j) (by omega)
      split <;> omega
theorem mxN_le {f : Nat → Nat} {m : Nat} : ∀ {k}, (∀ j, j < k → f j ≤ m) → mxN f k ≤ m
  | 0, _ => Nat.zero_le _
  | k + 1, h => by
    have a := mxN_le (k := k) fun j hj => h j (by omega)
    have b := h k (by omega)
    unfold mxN
    split <;> omega
theorem mxN_congr {f g : Nat → Nat} : ∀ {k}, (∀ j, j < k → f j = g j) → mxN f k = mxN g k
  | 0, _ => rfl
  | k + 1, h => by unfold mxN; rw [mxN_congr (k := k) fun j hj => h j (by omega), h k (by omega)]
section
variable {M : List (List Int)}
noncomputable def rkN (M : List (List Int)) (i : Nat) : Nat := ct (fun u => Rc M i u) M.length
theorem rk_lt (hm : isMat M = true) {i j : Nat} (hi : i < M.length) (hj : j < M.length) (r : Rc M i j) (ne : clN M j ≠ clN M i) : rkN M j < rkN M i :=
  ct_lt (fun z _ h => r.trans h) hi (Rc.refl i) fun x => ne ((clN_eq hm hj hi).2 ⟨x, r⟩)
theorem rk_le (i : Nat) : rkN M i ≤ M.length := by
  unfold rkN
  refine Nat.le_trans (ct_le (q := fun _ => True) fun _ _ _ => trivial) ?_
  rw [ct_all fun _ _ => trivial]
  exact Nat.le_refl _
open Classical in
noncomputable def chF (M : List (List Int)) : Nat → Nat → Nat
  | 0, _ => 0
  | d + 1, i => mxN (fun j => if Rc M i j ∧ clN M j ≠ clN M i then chF M d j else 0) M.length + (if perN M i = 0 then 0 else 1)
theorem chF_eq (hm : isMat M = true) : ∀ d e i, i < M.length → rkN M i < d → rkN M i < e → chF M d i = chF M e i
  | 0, e, i, _, h, _ => by omega
  | d + 1, 0, i, _, _, h => by omega
  | d + 1, e + 1, i, hi, h1, h2 => by
    unfold chF
    congr 1
    refine mxN_congr fun j hj => ?_
    by_cases c : Rc M i j ∧ clN M j ≠ clN M i
    · have := rk_lt hm hi hj c.1 c.2
      rw [if_pos c, if_pos c, chF_eq hm d e j hj (by omega) (by omega)]
    · rw [if_neg c, if_neg c]
noncomputable def chv (M : List (List Int)) (i : Nat) : Nat := chF M (M.length + 1) i
open Classical in
noncomputable def chT (M : List (List Int)) (i j : Nat) : Nat := if Rc M i j ∧ clN M j ≠ clN M i then chv M j else 0
theorem chT_t {i j : Nat} (r : Rc M i j) (n : clN M j ≠ clN M i) : chT M i j = chv M j := if_pos ⟨r, n⟩
theorem chT_f {i j : Nat} (h : ¬ (Rc M i j ∧ clN M j ≠ clN M i)) : chT M i j = 0 := if_neg h
theorem chv_eq (hm : isMat M = true) {i : Nat} (hi : i < M.length) : chv M i = mxN (chT M i) M.length + (if perN M i = 0 then 0 else 1) := by
  have hr := rk_le (M := M) i
  show chF M (M.length + 1) i = _
  unfold chF
  congr 1
  refine mxN_congr fun j hj => ?_
  by_cases c : Rc M i j ∧ clN M j ≠ clN M i
  · have := rk_lt hm hi hj c.1 c.2
    rw [if_pos c, chT_t c.1 c.2, chF_eq hm M.length (M.length + 1) j hj (by omega) (by omega)]
    rfl
  · rw [if_neg c, chT_f c]
theorem perN_mu (hm : isMat M = true) {i k : Nat} (hi : i < M.length) (m : Mu M i k) : perN M k = perN M i := perN_eq ((perN_ok hm hi).mu m)
theorem chv_mu (hm : isMat M = true) {i k : Nat} (hi : i < M.length) (hk : k < M.length) (m : Mu M i k) : chv M i = chv M k := by
  rw [chv_eq hm hi, chv_eq hm hk, perN_mu hm hi m]
  congr 1
  refine mxN_congr fun j hj => ?_
  have e := (clN_eq hm hi hk).2 m
  by_cases c : Rc M i j ∧ clN M j ≠ clN M i
  · rw [chT_t c.1 c.2, chT_t (m.2.trans c.1) (by rw [← e]; exact c.2)]
  · rw [chT_f c, chT_f fun q => c ⟨m.1.trans q.1, by rw [e]; exact q.2⟩]
theorem chv_le (hm : isMat M = true) : ∀ r i, i < M.length → rkN M i = r → chv M i ≤ r := fun r => by
  induction r using Nat.strongRecOn with
  | _ r ih =>
    intro i hi e
    have p : 0 < rkN M i := by
      have := ct_lt (p := fun _ => False) (q := fun u => Rc M i u) (k := M.length) (fun _ _ h => h.elim) hi (Rc.refl i) id
      unfold rkN; omega
    have : mxN (chT M i) M.length ≤ r - 1 := mxN_le fun j hj => by
      by_cases c : Rc M i j ∧ clN M j ≠ clN M i
      · have l := rk_lt hm hi hj c.1 c.2
        have := ih _ (by omega) j hj rfl
        rw [chT_t c.1 c.2]; omega
      · rw [chT_f c]; omega
    rw [chv_eq hm hi]
    split <;> omega
theorem chv_bd (hm : isMat M = true) {i : Nat} (hi : i < M.length) : chv M i ≤ M.length := Nat.le_trans (chv_le hm _ i hi rfl) (rk_le i)
open Classical in
noncomputable def chR (M : List (List Int)) (c j : Nat) : Nat := if clN M j = j ∧ j ≠ c ∧ Rc M c j then chv M j else 0
theorem chR_t {c j : Nat} (h : clN M j = j ∧ j ≠ c ∧ Rc M c j) : chR M c j = chv M j := if_pos h
theorem chR_f {c j : Nat} (h : ¬ (clN M j = j ∧ j ≠ c ∧ Rc M c j)) : chR M c j = 0 := if_neg h
theorem mx_rep (hm : isMat M = true) {c : Nat} (hc : c < M.length) (e : clN M c = c) : mxN (chR M c) M.length = mxN (chT M c) M.length := by
  refine Nat.le_antisymm (mxN_le fun j hj => ?_) (mxN_le fun j hj => ?_)
  · by_cases h : clN M j = j ∧ j ≠ c ∧ Rc M c j
    · rw [chR_t h, ← chT_t h.2.2 (by rw [h.1, e]; exact h.2.1)]
      exact mxN_ge hj
    · rw [chR_f h]; omega
  · by_cases h : Rc M c j ∧ clN M j ≠ clN M c
    · obtain ⟨l, m, _⟩ := clN_ok hm hj
      have hl : clN M j < M.length := by omega
      have : clN M (clN M j) = clN M j ∧ clN M j ≠ c ∧ Rc M c (clN M j) := ⟨clN_id hm hj, by rw [← e]; exact h.2, h.1.trans m.1⟩
      rw [chT_t h.1 h.2, chv_mu hm hj hl m, ← chR_t this]
      exact mxN_ge hl
    · rw [chT_f h]; omega
def dgF (M : List (List Int)) (j : Nat) : Nat → Int
  | 0 => 0
  | k + 1 => if clN M j = clN M k then dgF M j k + ent M j k else dgF M j k
def dg (M : List (List Int)) (j : Nat) : Int := dgF M j M.length
theorem dgF_bd (hm : isMat M = true) (j : Nat) : ∀ k : Nat, 0 ≤ dgF M j k ∧ dgF M j k ≤ 9 * k
  | 0 => ⟨Int.le_refl _, Int.le_refl _⟩
  | k + 1 => by
    have a := dgF_bd hm j k
    have b := ent_bd hm j k
    unfold dgF
    split <;> omega
theorem dgF_pos (hm : isMat M = true) (j : Nat) : ∀ k, 0 < dgF M j k ↔ ∃ z, z < k ∧ clN M j = clN M z ∧ 0 < ent M j z
  | 0 => ⟨fun h => (by have : (0 : Int) < 0 := h; omega), fun ⟨z, h, _⟩ => by omega⟩
  | k + 1 => by
    have ih := dgF_pos hm j k
    have a := dgF_bd hm j k
    have b := ent_bd hm j k
    constructor
    · intro h
      unfold dgF at h
      by_cases c : clN M j = clN M k
      · rw [if_pos c] at h
        by_cases d : 0 < ent M j k
        · exact ⟨k, by omega, c, d⟩
        · obtain ⟨z, h1, h2⟩ := ih.1 (by omega)
          exact ⟨z, by omega, h2⟩
      · rw [if_neg c] at h
        obtain ⟨z, h1, h2⟩ := ih.1 h
        exact ⟨z, by omega, h2⟩
    · rintro ⟨z, h1, h2, h3⟩
      unfold dgF
      by_cases e : z = k
      · subst e
        rw [if_pos h2]; omega
      · have := ih.2 ⟨z, by omega, h2, h3⟩
        split <;> omega
theorem per_dg (hm : isMat M = true) {i : Nat} (hi : i < M.length) : perN M i ≠ 0 ↔ ∃ j, j < M.length ∧ 0 < dg M j ∧ clN M j = clN M i := by
  constructor
  · intro h
    rcases cyc_or M i with ⟨c, hc⟩ | hc
    · obtain ⟨c, rfl⟩ : ∃ d, c = d + 1 := ⟨c - 1, by have := hc.1; omega⟩
      obtain ⟨v, e, w⟩ := (cw_iff hm).1 hc.2.2.1
      have hv := (ent_lt hm e).2
      have m : Mu M i v := ⟨Rc.one e, ⟨c, w⟩⟩
      exact ⟨i, hi, (dgF_pos hm i _).2 ⟨v, hv, (clN_eq hm hi hv).2 m, e⟩, rfl⟩
    · exact absurd (noCyc_per hm hi hc) h
  · rintro ⟨j, hj, d, e⟩ h0
    obtain ⟨z, hz, c, p⟩ := (dgF_pos hm j _).1 d
    obtain ⟨k, w⟩ := ((clN_eq hm hj hz).1 c).2
    have m : Mu M i j := (clN_eq hm hi hj).1 e.symm
    have := ((perN_ok hm hi).mu m).1 (k + 1) ⟨z, p, w⟩
    rw [h0] at this
    have := Nat.eq_zero_of_zero_dvd this
    omega
def bigD (M : List (List Int)) (i j : Nat) : Prop := j < M.length ∧ Rc M i j ∧ 1 < dg M j
open Classical in
noncomputable def gwV (M : List (List Int)) (i : Nat) : Int := if ∃ j, bigD M i j then -2 else (chv M i : Int) - 1
theorem gw_or (M : List (List Int)) (i : Nat) : (∃ j, bigD M i j ∧ ∀ k, k < j → ¬ bigD M i k) ∨ ∀ j, ¬ bigD M i j := by
  by_cases c : ∃ j, bigD M i j
  · obtain ⟨j, hj⟩ := c
    obtain ⟨m, _, a, b⟩ := leastN j hj
    exact .inl ⟨m, a, b⟩
  · exact .inr fun j h => c ⟨j, h⟩
theorem gw_t {i j : Nat} (h : bigD M i j) : gwV M i = -2 := if_pos ⟨j, h⟩
theorem gw_f {i : Nat} (h : ∀ j, ¬ bigD M i j) : gwV M i = (chv M i : Int) - 1 := if_neg fun ⟨j, q⟩ => h j q
end
end Go.Proofs.Ytjeemgaoonapgaa.Ev
set_option linter.unusedVariables false
set_option linter.unusedSimpArgs false
namespace Go.AEv
open Classical in
noncomputable def pt (I : CallF) (f : Nat) (args : List AV) (h : Heap) (x : AV × List AObj × Bool) : CallF := fun g a k => if g = f ∧ a = args ∧ k = h then some x else I g a k
section
variable {tbl : Nat → Option CFunc} {I : CallF} {f : Nat} {args : List AV} {h : Heap} {x : AV × List AObj × Bool}
theorem pt_at : pt I f args h x f args h = some x := if_pos ⟨rfl, rfl, rfl⟩
theorem pt_le {m : Nat} (hf : f ≠ 0) (hc : (evW tbl I m).call f args h = some x) : ∀ n, RecLe (evW tbl (pt I f args h x) n) (evW tbl I (m + n))
  | 0 => ⟨fun _ _ _ _ h => (by simp [evW] at h), fun _ _ _ _ h => (by simp [evW] at h)⟩
  | n + 1 => by
    have ih := pt_le hf hc n
    refine ⟨fun g a k y e => ?_, fun c s h x e => evCode_mono ih c e⟩
    cases g with
    | zero =>
      cases a with
      | nil => exact e
      | cons v rest =>
        cases v with
        | yld l =>
          have e' : (match evRound (evW tbl (pt I f args h x) n) l rest k with | some (v, h') => some (v, h'.own, true) | none => none) = some y := e
          show (match evRound (evW tbl I (m + n)) l rest k with | some (v, h') => some (v, h'.own, true) | none => none) = some y
          cases ha : evRound (evW tbl (pt I f args h x) n) l rest k with
          | none => rw [ha] at e'; cases e'
          | some q => rw [ha] at e'; rw [evRound_mono ih ha]; exact e'
        | _ => exact e
    | succ g =>
      have e' : (match pt I f args h x (g + 1) a k with | some x => some x | none => callBody tbl (evW tbl (pt I f args h x) n) (g + 1) a k) = some y := e
      by_cases c : g + 1 = f ∧ a = args ∧ k = h
      · obtain ⟨rfl, rfl, rfl⟩ := c
        rw [pt_at] at e'
        cases e'
        exact (evW_le' (by omega)).call _ _ _ _ hc
      · rw [show pt I f args h x (g + 1) a k = I (g + 1) a k from if_neg c] at e'
        show (match I (g + 1) a k with | some x => some x | none => callBody tbl (evW tbl I (m + n)) (g + 1) a k) = some y
        cases hi : I (g + 1) a k with
        | some z => rw [hi] at e'; exact e'
        | none => rw [hi] at e'; exact callBody_mono ih e'
theorem W.point {c : CCode} {s : T} {k : Heap} {Q : PQ} (hf : f ≠ 0) (hc : CallsTo tbl I f args h x) (w : W tbl (pt I f args h x) c s k Q) : W tbl I c s k Q := by
  obtain ⟨m, hc⟩ := hc
  obtain ⟨e, s', h', ⟨n, r⟩, q⟩ := w
  exact ⟨e, s', h', ⟨m + n, evCode_mono (pt_le hf hc n) c r⟩, q⟩
theorem Tr.shr {cf : CFunc} {s : T} {v : AV} {e : AExit} {R : Heap → Prop} (hf : f ≠ 0) (ht : tbl f = some cf) (hi : I f args h = none) (hsh : cf.shared = true) (hs : initS cf.params args .leaf = some s)
    (he : ∀ i, e ≠ .exit i) (hb : Tr tbl I cf.body (fun s' h' => s' = s ∧ h' = h) e (fun s' h' => R h' ∧ ∃ vs, evRess h' s' cf.results = some vs ∧ one vs = v)) : ∃ h', R h' ∧ CallsTo tbl I f args h (v, h'.own, true) := by
  obtain ⟨s1, h1, r1, hr, vs, q1, rfl⟩ := hb s h ⟨rfl, rfl⟩
  exact ⟨h1, hr, CallsTo.shared hf ht hi hsh hs r1 he q1⟩
theorem all_eq {M : Nat → Prop} {h h' : Heap} (k : Kp M h h') : (⟨h.lo, h.N, h'.own⟩ : Heap) = h' := by
  have a := k.lo
  have b := k.N
  cases h; cases h'
  simp only at a b
  subst a; subst b
  rfl
end
end Go.AEv
namespace Go.Proofs.Ytjeemgaoonapgaa.Ev
open Go Go.AEv
def sv (g : Nat → Int) (L : List Nat) : List (AV × AV) := L.map fun (c : Nat) => (G c, G (g c))
theorem find_sv (g : Nat → Int) (k : Nat) : ∀ L : List Nat, findA (G k) (sv g L) = some (if k ∈ L then some (G (g k)) else none)
  | [] => rfl
  | c :: L => by
    show (match aveq (G k) (G c) with | some true => some (some (G (g c))) | some false => findA (G k) (sv g L) | none => none) = _
    rw [aveq_n]
    by_cases e : k = c
    · subst e
      simp
    · rw [beq_eq_false_iff_ne.2 e]
      simp only
      rw [find_sv g k L]
      simp [e]
theorem put_sv (g : Nat → Int) (k : Nat) : ∀ L : List Nat, putMap (G k) (G (g k)) (sv g L) = some (sv g (ins k L))
  | [] => rfl
  | c :: L => by
    show (match aveq (G k) (G c) with | some true => some ((G k, G (g k)) :: sv g L) | some false => (putMap (G k) (G (g k)) (sv g L)).map ((G c, G (g c)) :: ·) | none => none) = _
    rw [aveq_n]
    by_cases e : k = c
    · subst e
      simp [ins, sv]
    · rw [beq_eq_false_iff_ne.2 e]
      simp only
      rw [put_sv g k L]
      unfold ins
      by_cases m : k ∈ L
      · rw [if_pos m, if_pos (List.mem_cons_of_mem _ m)]; rfl
      · rw [if_neg m, if_neg (by simp [e, m])]; rfl
end Go.Proofs.Ytjeemgaoonapgaa.Ev
set_option linter.unusedVariables false
set_option linter.unusedSimpArgs false
namespace Go.Proofs.Ytjeemgaoonapgaa.Ev
open Go Go.AEv
attribute [local simp] evFunc initS evOps_c evTrim_c evSkip_c evExit_c evRet_c evSeq_c evCond_c evBlock_c evDraw_c runOps_n runOps_c exec_n exec_g pure1_c act AOpd.ev T.get T.set T.put evBin evUn forceT_eq forceV_eq forceL_eq evRess evRes one keep runFP_n runFP_c app_none AV.flats AV.flat came_some List.getElem?_cons_zero List.getElem?_cons_succ beqT wrapI idxI tdivI tmodI decT decF ibT ibF inT inF evScope_c if_pos if_neg Cm_some thenW_n thenW_e thenW_r blkW_n blkW_e blkW_r goI kn putAt AV.cells fillA loadA takeA mk Eff.isAll Eff.isNone Eff.commutes Eff.spares okPair apart eqAgg fits LK.fits allEq aveq eqk mmA
theorem fr_at {h : Heap} {b : Nat} {x : AObj} (e : h.get b = x) (hx : x ≠ .hole) : (frameOf h).get b = x := by
  unfold frameOf
  rw [fr_get]
  exact plus_keep [] e hx
structure C70 (h : Heap) (M : List (List Int)) (qc qp ql : Nat) (rs : List AV) : Prop where
  gc : h.get qc = .cells 1 M.length (gs (clsL M))
  gp : h.get qp = .cells 1 M.length (gs (pdL M))
  ld : LD h M ql rs
section
variable {M : List (List Int)}
theorem C70.fr {h : Heap} {qc qp ql : Nat} {rs : List AV} (c : C70 h M qc qp ql rs) : C70 (frameOf h) M qc qp ql rs :=
  ⟨fr_at c.gc (by simp), fr_at c.gp (by simp), fr_at c.ld.g (by simp), fun i hi => by obtain ⟨b, e1, e2⟩ := c.ld.r i hi; exact ⟨b, e1, fr_at e2 (by simp)⟩⟩
end
section
variable {M : List (List Int)}
end
def Post40 (a : AI) (_ : Heap) (v : AV) (own : List AObj) : Prop := v = G (gwV a.M a.i) ∧ own = []
noncomputable def T37 : CallF := addK tbl T36 40 PreI Post40
theorem t37 : Sound Go.Proofs.Try.prog T37 := Sound.addK follows ok t36 (by decide) _ _
def capG (b14 qm q9 q8 b15 q10 : Nat) : List AV := [.ptr b14 0 1, .ptr qm 0 65, .ptr q9 0 1, .ptr q8 0 64, .ptr b15 0 1, .ptr q10 0 1]
structure CG (K : Heap) (M : List (List Int)) (b14 bm qm q9 qc q8 b15 q10 by' : Nat) (C : List Nat) : Prop where
  g14 : K.get b14 = .cells 0 1 [.map bm]
  gq : K.get qm = .cells 0 65 (matC M)
  g9 : K.get q9 = .cells 0 1 [.slice qc 0 M.length M.length]
  gc : K.get qc = .cells 1 M.length (gs (clsL M))
  g8 : K.get q8 = .cells 0 64 (bls (ldF M) 64)
  g15 : K.get b15 = .cells 0 1 [.func 68 (capG b14 qm q9 q8 b15 q10)]
  g10 : K.get q10 = .cells 0 1 [.map by']
  gy : K.get by' = .map (st C)
  hN : K.N ≤ bm
  ne : by' ≠ bm
section
variable {M : List (List Int)}
theorem CG.kp {K K' : Heap} {b14 bm qm q9 qc q8 b15 q10 by' : Nat} {C : List Nat} {es : List (AV × AV)} (t : CG K M b14 bm qm q9 qc q8 b15 q10 by' C) (g : K.get bm = .map es) (k : Kp (fun i => i = bm) K K') : CG K' M b14 bm qm q9 qc q8 b15 q10 by' C := by
  have nn : ∀ {b s n cs}, K.get b = .cells s n cs → ¬ b = bm := fun e q => by rw [q, g] at e; cases e
  exact ⟨k.at t.g14 (by simp) (nn t.g14), k.at t.gq (by simp) (nn t.gq), k.at t.g9 (by simp) (nn t.g9), k.at t.gc (by simp) (nn t.gc), k.at t.g8 (by simp) (nn t.g8), k.at t.g15 (by simp) (nn t.g15), k.at t.g10 (by simp) (nn t.g10), k.at t.gy (by simp) t.ne, by rw [k.N]; exact t.hN, t.ne⟩
def RG (M : List (List Int)) (bm : Nat) (K K' : Heap) : Prop := Kp (fun i => i = bm) K K' ∧ ∃ L, K'.get bm = .map (sv (fun c => (chv M c : Int)) L)
theorem RG.trans {bm : Nat} {A B C : Heap} (x : RG M bm A B) (y : RG M bm B C) : RG M bm A C := ⟨x.1.trans y.1, y.2⟩
theorem c68_l (J : CallF) (hm : isMat M = true) {K : Heap} {b14 bm qm q9 qc q8 b15 q10 by' c : Nat} {C : List Nat} (cg : CG K M b14 bm qm q9 qc q8 b15 q10 by' C) {L0 : List Nat} (g0 : K.get bm = .map (sv (fun c => (chv M c : Int)) L0)) (hc : c < M.length) (hcl : clN M c = c)
    (ih : ∀ j, j < M.length → clN M j = j → j ≠ c → Rc M c j → ∀ K', RG M bm K K' → ∃ K2, RG M bm K' K2 ∧ CallsTo tbl J 68 (G j :: capG b14 qm q9 q8 b15 q10) K' (G (chv M j), K2.own, true)) :
    Tr tbl J c68_l0 (fun s h => RG M bm K h ∧ s.get [] = G c ∧ s.get [false] = .ptr b14 0 1 ∧ s.get [false, false] = .ptr q9 0 1 ∧ s.get [true, false] = .ptr q8 0 64 ∧ s.get [false, true] = .ptr b15 0 1 ∧ s.get [true, true] = .ptr q10 0 1 ∧ s.get [false, false, true] = G ((mxN (chR M c) 0 : Nat) : Int) ∧ s.get [true, true, true, false] = G M.length ∧ s.get [false, false, false, true] = G ((0 : Nat) : Int)) (.exit 0)
      (fun s h => RG M bm K h ∧ s.get [] = G c ∧ s.get [false] = .ptr b14 0 1 ∧ s.get [true, true] = .ptr q10 0 1 ∧ s.get [false, false, true] = G (mxN (chR M c) M.length)) := by
  have h8 := isMat_n hm
  refine Tr.rounds (P := fun j s h => RG M bm K h ∧ s.get [] = G c ∧ s.get [false] = .ptr b14 0 1 ∧ s.get [false, false] = .ptr q9 0 1 ∧ s.get [true, false] = .ptr q8 0 64 ∧ s.get [false, true] = .ptr b15 0 1 ∧ s.get [true, true] = .ptr q10 0 1 ∧ s.get [false, false, true] = G (mxN (chR M c) j) ∧ s.get [true, true, true, false] = G M.length ∧ s.get [false, false, false, true] = G j) (M := M.length) (fun j hj => ?_) ?_ (by simp) 0 (by omega)
  · refine Tr.w fun s1 H1 hp R kR => W.trim ?_
    obtain ⟨rg, q⟩ := hp
    have cg1 := cg.kp g0 rg.1
    have g9 := cg1.g9
    have gc := cg1.gc
    have g8 := cg1.g8
    have g15 := cg1.g15
    have cj : (gs (clsL M))[j]? = some (G (clN M j)) := gl_at _ hj
    have cj' := getI cj
    have el := fun x => bls_get (ldF M) (i := c * 8 + j) (x := x) (by omega)
    have lif := ldF_iff hm hc hj
    have l64 := bls_len (ldF M) 64
    have bm' : mxN (chR M c) j ≤ M.length := mxN_le fun z hz => by
      by_cases e : clN M z = z ∧ z ≠ c ∧ Rc M c z
      · rw [chR_t e]; exact chv_bd hm (by omega)
      · rw [chR_f e]; omega
    have bj := chv_bd hm hj
    have es : mxN (chR M c) (j + 1) = if mxN (chR M c) j < chR M c j then chR M c j else mxN (chR M c) j := rfl
    simp only [es] at kR
    by_cases d : clN M j = j ∧ j ≠ c ∧ Rc M c j
    · obtain ⟨d1, d2, d3⟩ := id d
      obtain ⟨K2, rg2, call⟩ := ih j hj d1 d2 d3 H1 rg
      have aa := all_eq rg2.1
      have rg3 : RG M bm K ⟨H1.lo, H1.N, K2.own⟩ := by rw [aa]; exact rg.trans rg2
      have a1 := el _ (lif.2 d3)
      have a1' := getI a1
      rw [chR_t d] at kR
      rw [d1] at cj cj'
      refine W.point (by decide) call ?_
      have k68 := pt_at (I := J) (f := 68) (args := G j :: capG b14 qm q9 q8 b15 q10) (h := H1) (x := (G (chv M j), K2.own, true))
      generalize pt J 68 (G j :: capG b14 qm q9 q8 b15 q10) H1 (G (chv M j), K2.own, true) = J at *
      clear ih es lif hm el cg cg1 call rg rg2 g0 d hcl d1 d3
      generalize mxN (chR M c) j = mx at *
      generalize chv M j = z at *
      generalize gs (clsL M) = cc at *
      generalize bls (ldF M) 64 = cl at *
      generalize capG b14 qm q9 q8 b15 q10 = cap at *
      generalize M.length = n at *
      have d2' : ¬ (j : Int) = c := by omega
      by_cases lt : mx < z
      · rw [if_pos lt] at kR
        refine W.seq (W.chunk ?_)
        simp (disch := first|omega|exact zE rfl|exact zO|exact zL rfl) [c68_o5, zG, q]
        refine W.seq (W.chunk ?_)
        simp (disch := first|omega|exact zE rfl|exact zO|exact zL rfl) [zG, q]
        refine W.seq (W.block ?_)
        refine W.seq (W.chunk ?_)
        simp (disch := first|omega|exact zE rfl|exact zO|exact zL rfl) [c68_o6, zG, q]
        refine W.seq (W.chunk ?_)
        simp (disch := first|omega|exact zE rfl|exact zO|exact zL rfl) [c68_o7, zG, q, g9, gc, cj, cj', g8, a1, a1', l64]
        refine W.chunk ?_
        simp (disch := first|omega|exact zE rfl|exact zO|exact zL rfl) [c68_o8, zG, q, g15, k68]
        refine W.chunk ?_
        simp (disch := first|omega|exact zE rfl|exact zO|exact zL rfl) [c68_o9, zG, q]
        exact kR _ _ ⟨rg3, by simp [T.get, q]⟩
      · rw [if_neg lt] at kR
        refine W.seq (W.chunk ?_)
        simp (disch := first|omega|exact zE rfl|exact zO|exact zL rfl) [c68_o5, zG, q]
        refine W.seq (W.chunk ?_)
        simp (disch := first|omega|exact zE rfl|exact zO|exact zL rfl) [zG, q]
        refine W.seq (W.block ?_)
        refine W.seq (W.chunk ?_)
        simp (disch := first|omega|exact zE rfl|exact zO|exact zL rfl) [c68_o6, zG, q]
        refine W.seq (W.chunk ?_)
        simp (disch := first|omega|exact zE rfl|exact zO|exact zL rfl) [c68_o7, zG, q, g9, gc, cj, cj', g8, a1, a1', l64]
        refine W.chunk ?_
        simp (disch := first|omega|exact zE rfl|exact zO|exact zL rfl) [c68_o8, zG, q, g15, k68]
        refine W.chunk ?_
        simp (disch := first|omega|exact zE rfl|exact zO|exact zL rfl) [c68_o9, zG, q]
        exact kR _ _ ⟨rg3, by simp [T.get, q]⟩
    · rw [chR_f d, if_neg (Nat.not_lt_zero _)] at kR
      by_cases d1 : clN M j = j
      · rw [d1] at cj cj'
        by_cases d2 : j = c
        · subst d2
          clear ih es lif hm el cg cg1 g0
          generalize mxN (chR M j) j = mx at *
          generalize gs (clsL M) = cc at *
          generalize M.length = n at *
          refine W.seq (W.chunk ?_)
          simp (disch := first|omega|exact zE rfl|exact zO|exact zL rfl) [c68_o5, zG, q]
          refine W.seq (W.chunk ?_)
          simp (disch := first|omega|exact zE rfl|exact zO|exact zL rfl) [zG, q]
          refine W.seq (W.block ?_)
          refine W.seq (W.chunk ?_)
          simp (disch := first|omega|exact zE rfl|exact zO|exact zL rfl) [c68_o6, zG, q]
          refine W.seq (W.chunk ?_)
          simp (disch := first|omega|exact zE rfl|exact zO|exact zL rfl) [c68_o7, zG, q, g9, gc, cj, cj']
          refine W.chunk ?_
          simp (disch := first|omega|exact zE rfl|exact zO|exact zL rfl) [c68_o8, zG, q]
          refine W.chunk ?_
          simp (disch := first|omega|exact zE rfl|exact zO|exact zL rfl) [c68_o9, zG, q]
          exact kR _ _ ⟨rg, by simp [T.get, q]⟩
        · have nr : ldF M (c * 8 + j) = false := by
            cases hl : ldF M (c * 8 + j)
            · rfl
            · exact absurd ⟨d1, d2, lif.1 hl⟩ d
          have a1 := el _ nr
          have a1' := getI a1
          clear ih es lif hm el cg cg1 g0 nr d d1
          generalize mxN (chR M c) j = mx at *
          generalize gs (clsL M) = cc at *
          generalize bls (ldF M) 64 = cl at *
          generalize M.length = n at *
          have d2' : ¬ (j : Int) = c := by omega
          refine W.seq (W.chunk ?_)
          simp (disch := first|omega|exact zE rfl|exact zO|exact zL rfl) [c68_o5, zG, q]
          refine W.seq (W.chunk ?_)
          simp (disch := first|omega|exact zE rfl|exact zO|exact zL rfl) [zG, q]
          refine W.seq (W.block ?_)
          refine W.seq (W.chunk ?_)
          simp (disch := first|omega|exact zE rfl|exact zO|exact zL rfl) [c68_o6, zG, q]
          refine W.seq (W.chunk ?_)
          simp (disch := first|omega|exact zE rfl|exact zO|exact zL rfl) [c68_o7, zG, q, g9, gc, cj, cj', g8, a1, a1', l64]
          refine W.chunk ?_
          simp (disch := first|omega|exact zE rfl|exact zO|exact zL rfl) [c68_o8, zG, q]
          refine W.chunk ?_
          simp (disch := first|omega|exact zE rfl|exact zO|exact zL rfl) [c68_o9, zG, q]
          exact kR _ _ ⟨rg, by simp [T.get, q]⟩
      · have d1' : ¬ (j : Int) = (clN M j : Nat) := by omega
        clear ih es lif hm el cg cg1 g0 d
        generalize mxN (chR M c) j = mx at *
        generalize clN M j = u at *
        generalize gs (clsL M) = cc at *
        generalize M.length = n at *
        refine W.seq (W.chunk ?_)
        simp (disch := first|omega|exact zE rfl|exact zO|exact zL rfl) [c68_o5, zG, q]
        refine W.seq (W.chunk ?_)
        simp (disch := first|omega|exact zE rfl|exact zO|exact zL rfl) [zG, q]
        refine W.seq (W.block ?_)
        refine W.seq (W.chunk ?_)
        simp (disch := first|omega|exact zE rfl|exact zO|exact zL rfl) [c68_o6, zG, q]
        refine W.seq (W.chunk ?_)
        simp (disch := first|omega|exact zE rfl|exact zO|exact zL rfl) [c68_o7, zG, q, g9, gc, cj, cj']
        refine W.chunk ?_
        simp (disch := first|omega|exact zE rfl|exact zO|exact zL rfl) [c68_o8, zG, q]
        refine W.chunk ?_
        simp (disch := first|omega|exact zE rfl|exact zO|exact zL rfl) [c68_o9, zG, q]
        exact kR _ _ ⟨rg, by simp [T.get, q]⟩
  · refine Tr.w fun s1 H1 hp R kR => W.trim ?_
    obtain ⟨rg, q⟩ := hp
    clear cg ih
    generalize mxN (chR M c) M.length = mx at *
    generalize M.length = n at *
    refine W.seq (W.chunk ?_)
    simp (disch := first|omega|exact zE rfl|exact zO|exact zL rfl) [c68_o5, zG, q]
    refine W.seq (W.chunk ?_)
    simp (disch := first|omega|exact zE rfl|exact zO|exact zL rfl) [zG, q]
    exact kR _ _ ⟨rg, by simp [T.get, q]⟩
theorem c68_ok (J : CallF) (hJ : ∀ a h, J 68 a h = none) (hm : isMat M = true) {b14 bm qm q9 qc q8 b15 q10 by' : Nat} {C : List Nat} (hC : ∀ c, c ∈ C ↔ ∃ j, j < M.length ∧ 0 < dg M j ∧ clN M j = c) :
    ∀ r c, c < M.length → clN M c = c → rkN M c = r → ∀ K L, CG K M b14 bm qm q9 qc q8 b15 q10 by' C → K.get bm = .map (sv (fun c => (chv M c : Int)) L) →
      ∃ K', RG M bm K K' ∧ CallsTo tbl J 68 (G c :: capG b14 qm q9 q8 b15 q10) K (G (chv M c), K'.own, true) := fun r => by
  induction r using Nat.strongRecOn with
  | _ r ih =>
    intro c hc hcl hr K L cg g0
    have h8 := isMat_n hm
    refine Tr.shr (R := RG M bm K) (args := G c :: capG b14 qm q9 q8 b15 q10) (cf := c68) (e := .ret) (s := T.set (T.set (T.set (T.set (T.set (T.set (T.set .leaf [] (G c)) [false] (.ptr b14 0 1)) [true] (.ptr qm 0 65)) [false, false] (.ptr q9 0 1)) [true, false] (.ptr q8 0 64)) [false, true] (.ptr b15 0 1)) [true, true] (.ptr q10 0 1)) (by decide) rfl (hJ _ _) rfl rfl (by simp) ?_
    refine Tr.w fun s1 H1 hp R kR => ?_
    obtain ⟨rfl, rfl⟩ := hp
    have q : True := trivial
    have g14 := cg.g14
    have gq := cg.gq
    have lm := matC_len M
    have e0 : (matC M)[0]? = some (G M.length) := rfl
    have e0' := getI e0
    have ga := mapA_at g0
    have fs := find_sv (fun c => (chv M c : Int)) c L
    by_cases hL : c ∈ L
    · rw [if_pos hL] at fs
      have fin : RG M bm H1 H1 := ⟨Kp.refl _, L, g0⟩
      clear cg ih
      generalize sv (fun c => (chv M c : Int)) L = es at *
      generalize matC M = cm at *
      generalize chv M c = z at *
      refine W.seq (W.chunk ?_)
      simp (disch := first|omega|exact zE rfl|exact zO|exact zL rfl) [c68_o0, zG, q]
      refine W.assoc ?_
      refine W.seq (W.chunk ?_)
      simp (disch := first|omega|exact zE rfl|exact zO|exact zL rfl) [c68_o1, zG, q, g14, ga, fs]
      refine W.assoc ?_
      refine W.seq (W.chunk ?_)
      simp (disch := first|omega|exact zE rfl|exact zO|exact zL rfl) [c68_o2, zG, q]
      refine W.seq (W.cond (v := false) (by simp (disch := first|omega|exact zE rfl|exact zO|exact zL rfl) [zG, q]) ?_)
      simp only [if_true, if_false, Bool.false_eq_true]
      refine W.skip ?_
      try simp only [zW, if_true]
      refine W.seq (W.chunk ?_)
      simp (disch := first|omega|exact zE rfl|exact zO|exact zL rfl) [c68_o13, zG, q, g14, ga, fs]
      refine W.ret ?_
      try simp only [zW, if_true]
      exact kR _ _ ⟨fin, [G z], by simp [T.get, c68, evRess, evRes], rfl⟩
    · rw [if_neg hL] at fs
      have rg0 : RG M bm H1 H1 := ⟨Kp.refl _, L, g0⟩
      have l0 := c68_l (L0 := L) J hm cg g0 hc hcl fun j hj d1 d2 d3 K' rg => by
        obtain ⟨L', g'⟩ := rg.2
        exact ih _ (by have := rk_lt hm hc hj d3 (by rw [d1, hcl]; exact d2); omega) j hj d1 rfl K' L' (cg.kp g0 rg.1) g'
      have ce := chv_eq hm hc
      rw [← mx_rep hm hc hcl] at ce
      have bd := chv_bd hm hc
      have pd := per_dg hm hc
      rw [hcl] at pd
      have pd := pd.trans (hC c).symm
      rw [show mxN (chR M c) 0 = 0 from rfl] at l0
      have fC := find_st c C
      generalize hes : sv (fun c => (chv M c : Int)) L = es at *
      generalize hmx : mxN (chR M c) M.length = mx at *
      have post : ∀ H2, RG M bm H1 H2 → ∃ es2, CG H2 M b14 bm qm q9 qc q8 b15 q10 by' C ∧ mapA H2 (.map bm) = some es2 ∧ mapA H2 (.map by') = some (st C) ∧ ∃ es3, putMap (G c) (G (chv M c)) es2 = some es3 ∧ Eff.app (.mput bm es3) H2 = some (H2.upd bm (.map es3)) ∧ RG M bm H1 (H2.upd bm (.map es3)) ∧ (H2.upd bm (.map es3)).get b14 = .cells 0 1 [.map bm] ∧ mapA (H2.upd bm (.map es3)) (.map bm) = some es3 ∧ findA (G c) es3 = some (some (G (chv M c))) := fun H2 rg => by
        obtain ⟨L2, g2⟩ := rg.2
        have cg2 := cg.kp g0 rg.1
        have hlt := get_lt g2 (by simp)
        have f3 := find_sv (fun c => (chv M c : Int)) c (ins c L2)
        rw [if_pos (mem_ins.2 (.inl rfl))] at f3
        have g3 := upd_same H2 bm (.map (sv (fun c => (chv M c : Int)) (ins c L2))) cg2.hN hlt
        have k3 : Kp (fun i => i = bm) H2 (H2.upd bm (.map (sv (fun c => (chv M c : Int)) (ins c L2)))) := Kp.upd H2 bm _ cg2.hN rfl
        exact ⟨_, cg2, mapA_at g2, mapA_at cg2.gy, _, put_sv (fun c => (chv M c : Int)) c L2, mput_gen H2 bm _ _ cg2.hN g2, ⟨rg.1.trans k3, _, g3⟩, (cg2.kp g2 k3).g14, mapA_at g3, f3⟩
      clear ih cg hmx hes hm hcl hr
      generalize matC M = cm at *
      by_cases hp : perN M c = 0
      · have nC : c ∉ C := fun q => pd.2 q hp
        rw [if_neg nC] at fC
        rw [if_pos hp, Nat.add_zero] at ce
        rw [ce] at bd post
        simp only [ce] at kR
        clear hp nC pd
        refine W.seq (W.chunk ?_)
        simp (disch := first|omega|exact zE rfl|exact zO|exact zL rfl) [c68_o0, zG, q]
        refine W.assoc ?_
        refine W.seq (W.chunk ?_)
        simp (disch := first|omega|exact zE rfl|exact zO|exact zL rfl) [c68_o1, zG, q, g14, ga, fs]
        refine W.assoc ?_
        refine W.seq (W.chunk ?_)
        simp (disch := first|omega|exact zE rfl|exact zO|exact zL rfl) [c68_o2, zG, q]
        refine W.seq (W.cond (v := true) (by simp (disch := first|omega|exact zE rfl|exact zO|exact zL rfl) [zG, q]) ?_)
        simp only [if_true, if_false, Bool.false_eq_true]
        refine W.seq (W.chunk ?_)
        simp (disch := first|omega|exact zE rfl|exact zO|exact zL rfl) [c68_o3, zG, q]
        refine W.assoc ?_
        refine W.seq (W.chunk ?_)
        simp (disch := first|omega|exact zE rfl|exact zO|exact zL rfl) [c68_o4, zG, q, gq, e0, e0', lm]
        refine W.seq (W.block ?_)
        refine W.use (l0) (by simp (disch := first|omega|exact zE rfl|exact zO|exact zL rfl) [zG, q, rg0]) fun s1 H1 hp => ?_
        obtain ⟨rg, q⟩ := hp
        try simp only [zW, if_true]
        refine W.assoc ?_
        obtain ⟨es2, cg2, m1, m2, es3, f1, f2, rg3, n14, m3, f3⟩ := post _ rg
        have n10 := cg2.g10
        have o14 := cg2.g14
        refine W.seq (W.chunk ?_)
        simp (disch := first|omega|exact zE rfl|exact zO|exact zL rfl) [c68_o10, zG, q, n10, m2, fC]
        refine W.seq (W.chunk ?_)
        simp (disch := first|omega|exact zE rfl|exact zO|exact zL rfl) [c68_o11, zG, q]
        refine W.chunk ?_
        simp (disch := first|omega|exact zE rfl|exact zO|exact zL rfl) [c68_o12, zG, q, o14, m1, f1, f2]
        refine W.seq (W.chunk ?_)
        simp (disch := first|omega|exact zE rfl|exact zO|exact zL rfl) [c68_o13, zG, q, n14, m3, f3]
        refine W.ret ?_
        try simp only [zW, if_true]
        exact kR _ _ ⟨rg3, [G mx], by simp [T.get, c68, evRess, evRes], rfl⟩
      · have iC : c ∈ C := pd.1 hp
        rw [if_pos iC] at fC
        rw [if_neg hp] at ce
        rw [ce] at bd post
        simp only [ce] at kR
        have n1 : ((mx + 1 : Nat) : Int) = (mx : Int) + 1 := by omega
        rw [n1] at post
        clear hp iC pd
        refine W.seq (W.chunk ?_)
        simp (disch := first|omega|exact zE rfl|exact zO|exact zL rfl) [c68_o0, zG, q]
        refine W.assoc ?_
        refine W.seq (W.chunk ?_)
        simp (disch := first|omega|exact zE rfl|exact zO|exact zL rfl) [c68_o1, zG, q, g14, ga, fs]
        refine W.assoc ?_
        refine W.seq (W.chunk ?_)
        simp (disch := first|omega|exact zE rfl|exact zO|exact zL rfl) [c68_o2, zG, q]
        refine W.seq (W.cond (v := true) (by simp (disch := first|omega|exact zE rfl|exact zO|exact zL rfl) [zG, q]) ?_)
        simp only [if_true, if_false, Bool.false_eq_true]
        refine W.seq (W.chunk ?_)
        simp (disch := first|omega|exact zE rfl|exact zO|exact zL rfl) [c68_o3, zG, q]
        refine W.assoc ?_
        refine W.seq (W.chunk ?_)
        simp (disch := first|omega|exact zE rfl|exact zO|exact zL rfl) [c68_o4, zG, q, gq, e0, e0', lm]
        refine W.seq (W.block ?_)
        refine W.use (l0) (by simp (disch := first|omega|exact zE rfl|exact zO|exact zL rfl) [zG, q, rg0]) fun s1 H1 hp => ?_
        obtain ⟨rg, q⟩ := hp
        try simp only [zW, if_true]
        refine W.assoc ?_
        obtain ⟨es2, cg2, m1, m2, es3, f1, f2, rg3, n14, m3, f3⟩ := post _ rg
        have n10 := cg2.g10
        have o14 := cg2.g14
        refine W.seq (W.chunk ?_)
        simp (disch := first|omega|exact zE rfl|exact zO|exact zL rfl) [c68_o10, zG, q, n10, m2, fC]
        refine W.seq (W.chunk ?_)
        simp (disch := first|omega|exact zE rfl|exact zO|exact zL rfl) [c68_o11, zG, q]
        refine W.chunk ?_
        simp (disch := first|omega|exact zE rfl|exact zO|exact zL rfl) [c68_o12, zG, q, o14, m1, f1, f2]
        refine W.seq (W.chunk ?_)
        simp (disch := first|omega|exact zE rfl|exact zO|exact zL rfl) [c68_o13, zG, q, n14, m3, f3]
        refine W.ret ?_
        try simp only [zW, if_true]
        exact kR _ _ ⟨rg3, [G (mx + 1 : Nat)], by simp [T.get, c68, evRess, evRes, n1], rfl⟩
end
theorem W.fix {tbl : Nat → Option CFunc} {I : CallF} {c : CCode} {s : T} {h : Heap} {Q : PQ} (k : ∀ B, B = h → W tbl I c s B Q) : W tbl I c s h Q := k h rfl
theorem plus_hole (H : Heap) (a b : AObj) (lo : Nat → AObj) (own : List AObj) {q : Nat} (hq : H.size + 2 ≤ q) : (H.plus (a :: b :: own)).get q = (Heap.plus ⟨lo, H.size + 2, []⟩ own).get q := by
  have e : (⟨lo, H.size + 2, []⟩ : Heap).size = H.size + 2 := by simp [Heap.size]
  rw [plus_ge _ _ _ (by omega), plus_ge _ _ _ (by omega), e]
  rw [show q - H.size = (q - (H.size + 2)) + 1 + 1 by omega]
  rfl
theorem put_2nd (h : Heap) (v o g : Nat) (cs vs : List AV) (y : AObj) (xs : List AObj) (b : Nat) (hb : h.size + 1 = b) (ho : o + vs.length ≤ cs.length) : Eff.app (.put b v o vs) (h.plus (y :: .cells g v cs :: xs)) = some (h.plus (y :: .cells g v (putAt cs o vs) :: xs)) := by
  have := put_plus0 (h.plus [y]) v o g cs vs xs b (by rw [plus_size]; exact hb) ho
  rwa [plus_plus, plus_plus] at this
section
variable {M : List (List Int)}
theorem n39_4 (J : CallF) (k67 : K67 J) (k62 : K62 J) (hm : isMat M = true) {H : Heap} {qm i : Nat} (gm : H.get qm = .cells 0 65 (matC M)) :
    ∃ H2 qc, Kp (fun _ => False) H H2 ∧ H2.get H.size = .cells 0 64 (bls (ldF M) 64) ∧ H2.get (H.size + 1) = .cells 0 1 [.slice qc 0 M.length M.length] ∧ H2.get qc = .cells 1 M.length (gs (clsL M)) ∧
      Tr tbl J c39_o4 (fun s h => h = H ∧ s.get [false] = G i ∧ s.get [true, true] = .ptr qm 0 65) .normal (fun s h => h = H2 ∧ s.get [false] = G i ∧ s.get [true, true] = .ptr qm 0 65 ∧ s.get [true, false, false] = .ptr H.size 0 64 ∧ s.get [false, true, false] = .ptr (H.size + 1) 0 1) := by
  have h8 := isMat_n hm
  have lm := matC_len M
  have et : (matC M).take 65 = matC M := List.take_of_length_le (by omega)
  obtain ⟨w0, own0, k62a, n0⟩ := k62 ⟨fun _ => .hole, 0, []⟩ M hm
  obtain ⟨w, own, k62b, n1⟩ := k62 ⟨fun _ => .hole, H.size + 2, []⟩ M hm
  have k67 := k67 ⟨fun _ => .hole, 0, []⟩ M hm
  have lc : (gs (clsL M)).length = M.length := gl_len _ _
  have hne : gs (clsL M) ≠ [] := by intro e; rw [e] at lc; simp at lc; omega
  obtain ⟨q0, _, g0⟩ := n0.l.sl hne
  obtain ⟨qc, rfl, gc⟩ := n1.l.sl hne
  rw [lc] at k62b gc
  have hqc := n1.x0 qc rfl
  rw [show (⟨fun _ => .hole, H.size + 2, []⟩ : Heap).size = H.size + 2 by simp [Heap.size]] at hqc
  obtain ⟨x0, xs0, rfl⟩ : ∃ x0 xs0, own0 = x0 :: xs0 := by
    cases own0 with
    | cons a b => exact ⟨a, b, rfl⟩
    | nil =>
      have := get_lt g0 (by simp)
      have e : ((⟨fun _ => .hole, 0, []⟩ : Heap).plus []).size = 0 := by simp [Heap.plus, Heap.size]
      omega
  refine ⟨H.plus (.cells 0 64 (bls (ldF M) 64) :: .cells 0 1 [.slice qc 0 M.length M.length] :: own), qc, Kp.plus _ _, plus_at0 _ _ _ _ rfl, ?_, ?_, ?_⟩
  · rw [plus_ge _ _ _ (by omega), show H.size + 1 - H.size = 1 by omega]; rfl
  · rw [plus_hole _ _ _ (fun _ => .hole) _ hqc]; exact gc
  · have gm' := fun xs => plus_keep xs gm (by simp)
    have lb := bls_len (ldF M) 64
    have fl : AV.flats (bls (ldF M) 64) = true := bls_flat _ _
    have rp : List.replicate 64 (AV.bool false) = bls (fun _ => false) 64 := bls_rep 64
    have lz := bls_len (fun _ => false) 64
    have ep : putAt (bls (fun _ => false) 64) 0 (bls (ldF M) 64) = bls (ldF M) 64 := putAt_all _ _ (by omega)
    have fm : AV.flats (matC M) = true := matC_flat M
    have sz : [AObj.hole, .hole].length = 2 := rfl
    have r2 : List.replicate 2 AObj.hole = [.hole, .hole] := rfl
    have p1 := fun (x : AObj) (cs vs : List AV) (o : Nat) (xs : List AObj) (h : o + vs.length ≤ cs.length) => put_2nd H 1 o 0 cs vs x xs (H.size + 1) rfl h
    have hlt := get_lt gm (by simp)
    have ne1 : ¬ qm = H.size := by omega
    have ne2 : ¬ qm = H.size + 1 := by omega
    have f0 := fun x xs => fill_plus0 H H.size rfl x xs
    have f1 := fun x y xs => fill_plus1 H (H.size + 1) rfl x y xs
    refine Tr.w fun s1 H1 hp R kR => ?_
    obtain ⟨rfl, q⟩ := hp
    clear n0 n1 gc g0
    generalize bls (ldF M) 64 = cl at *
    generalize bls (fun _ => false) 64 = cz at *
    generalize matC M = cm at *
    refine W.chunk ?_
    simp (disch := first|omega|exact zE rfl|exact zO|exact zL rfl) [-evDraw_c, -List.reduceReplicate, c39_o4, zG, q, evDraw_k, gm', et, lm, k67, k62a, k62b, fl, fm, rp, lz, lb, ep, plus_plus, plus_size, f0, f1, sz, r2, p1, growsBy, Eff.level, ne1, ne2]
    exact kR _ _ (by simp [T.get, q])
theorem c39_k (J : CallF) (hm : isMat M = true) {H : Heap} {qm q9 qc x i : Nat} {x8 x10 : AV} (gm : H.get qm = .cells 0 65 (matC M)) (g9 : H.get q9 = .cells 0 1 [.slice qc 0 M.length M.length]) (gc : H.get qc = .cells 1 M.length (gs (clsL M))) (hx : x < M.length) :
    Tr tbl J c39_l0 (fun s h => h = H ∧ s.get [false] = G i ∧ s.get [true, true] = .ptr qm 0 65 ∧ s.get [true, false, false] = x8 ∧ s.get [false, true, false] = .ptr q9 0 1 ∧ s.get [true, true, false] = x10 ∧ s.get [false, false, true] = G x ∧ s.get [true, false, true] = G (dgF M x 0) ∧ s.get [false, true, true, false, false] = G M.length ∧ s.get [true, true, true, false, false] = G x ∧ s.get [true, true, false, true, false] = G M.length ∧ s.get [false, false, true, true, false] = G ((0 : Nat) : Int)) (.exit 2)
      (fun s h => h = H ∧ s.get [false] = G i ∧ s.get [true, true] = .ptr qm 0 65 ∧ s.get [true, false, false] = x8 ∧ s.get [false, true, false] = .ptr q9 0 1 ∧ s.get [true, true, false] = x10 ∧ s.get [false, false, true] = G x ∧ s.get [true, false, true] = G (dg M x) ∧ s.get [false, true, true, false, false] = G M.length ∧ s.get [true, true, true, false, false] = G x) := by
  have h8 := isMat_n hm
  have lm := matC_len M
  refine Tr.rounds (P := fun k => (fun s h => h = H ∧ s.get [false] = G i ∧ s.get [true, true] = .ptr qm 0 65 ∧ s.get [true, false, false] = x8 ∧ s.get [false, true, false] = .ptr q9 0 1 ∧ s.get [true, true, false] = x10 ∧ s.get [false, false, true] = G x ∧ s.get [true, false, true] = G (dgF M x k) ∧ s.get [false, true, true, false, false] = G M.length ∧ s.get [true, true, true, false, false] = G x ∧ s.get [true, true, false, true, false] = G M.length ∧ s.get [false, false, true, true, false] = G k)) (M := M.length) (fun k hk => ?_) ?_ (by simp) 0 (by omega)
  · refine Tr.w fun s1 H1 hp R kR => W.trim ?_
    obtain ⟨rfl, q⟩ := hp
    have ea := matC_at M (i := x) (j := k) (by omega) (by omega)
    have ea' := getI ea
    have ci : (gs (clsL M))[x]? = some (G (clN M x)) := gl_at _ hx
    have ck : (gs (clsL M))[k]? = some (G (clN M k)) := gl_at _ hk
    have ci' := getI ci
    have ck' := getI ck
    have bd := dgF_bd hm x k
    have be := ent_bd hm x k
    have es : dgF M x (k + 1) = if clN M x = clN M k then dgF M x k + ent M x k else dgF M x k := rfl
    rw [es] at kR
    clear es hm
    generalize dgF M x k = d at *
    generalize ent M x k = e at *
    generalize matC M = cm at *
    by_cases c : clN M x = clN M k
    · rw [if_pos c] at kR
      rw [← c] at ck ck'
      clear c
      generalize clN M x = u at *
      generalize gs (clsL M) = cc at *
      generalize M.length = n at *
      refine W.seq (W.chunk ?_)
      simp (disch := first|omega|exact zE rfl|exact zO|exact zL rfl) [c39_o11, zG, q]
      refine W.seq (W.chunk ?_)
      simp (disch := first|omega|exact zE rfl|exact zO|exact zL rfl) [zG, q]
      refine W.seq (W.block ?_)
      refine W.seq (W.chunk ?_)
      simp (disch := first|omega|exact zE rfl|exact zO|exact zL rfl) [c39_o12, zG, q]
      refine W.seq (W.chunk ?_)
      simp (disch := first|omega|exact zE rfl|exact zO|exact zL rfl) [c39_o13, zG, q, g9, gc, ci, ci', ck, ck', -evDraw_c, evDraw_0]
      refine W.chunk ?_
      simp (disch := first|omega|exact zE rfl|exact zO|exact zL rfl) [c39_o14, zG, q, gm, ea, ea', lm]
      refine W.chunk ?_
      simp (disch := first|omega|exact zE rfl|exact zO|exact zL rfl) [c39_o15, zG, q]
      exact kR _ _ (by simp [T.get, q])
    · rw [if_neg c] at kR
      have c' : ¬ (clN M x : Int) = clN M k := by omega
      clear c
      generalize clN M x = u at *
      generalize clN M k = w at *
      generalize gs (clsL M) = cc at *
      generalize M.length = n at *
      refine W.seq (W.chunk ?_)
      simp (disch := first|omega|exact zE rfl|exact zO|exact zL rfl) [c39_o11, zG, q]
      refine W.seq (W.chunk ?_)
      simp (disch := first|omega|exact zE rfl|exact zO|exact zL rfl) [zG, q]
      refine W.seq (W.block ?_)
      refine W.seq (W.chunk ?_)
      simp (disch := first|omega|exact zE rfl|exact zO|exact zL rfl) [c39_o12, zG, q]
      refine W.seq (W.chunk ?_)
      simp (disch := first|omega|exact zE rfl|exact zO|exact zL rfl) [c39_o13, zG, q, g9, gc, ci, ci', ck, ck', -evDraw_c, evDraw_0]
      refine W.chunk ?_
      simp (disch := first|omega|exact zE rfl|exact zO|exact zL rfl) [c39_o14, zG, q]
      refine W.chunk ?_
      simp (disch := first|omega|exact zE rfl|exact zO|exact zL rfl) [c39_o15, zG, q]
      exact kR _ _ (by simp [T.get, q])
  · refine Tr.w fun s1 H1 hp R kR => W.trim ?_
    obtain ⟨rfl, q⟩ := hp
    clear gm g9 gc
    rw [show dg M x = dgF M x M.length from rfl] at kR
    generalize dgF M x M.length = d at *
    generalize M.length = n at *
    refine W.seq (W.chunk ?_)
    simp (disch := first|omega|exact zE rfl|exact zO|exact zL rfl) [c39_o11, zG, q]
    refine W.seq (W.chunk ?_)
    simp (disch := first|omega|exact zE rfl|exact zO|exact zL rfl) [zG, q]
    exact kR _ _ (by simp [T.get, q])
def CX (M : List (List Int)) (x : Nat) (C : List Nat) : Prop := ∀ c, c ∈ C ↔ ∃ j, j < x ∧ 0 < dg M j ∧ clN M j = c
theorem CX.init : CX M 0 [] := fun c => ⟨fun h => (by cases h), fun ⟨j, h, _⟩ => by omega⟩
theorem CX.skip {x : Nat} {C : List Nat} (l : CX M x C) (h : ¬ 0 < dg M x) : CX M (x + 1) C := fun c =>
  ⟨fun q => by obtain ⟨j, a, b⟩ := (l c).1 q; exact ⟨j, by omega, b⟩, fun ⟨j, a, b1, b2⟩ => by
    by_cases e : j = x
    · rw [e] at b1; exact absurd b1 h
    · exact (l c).2 ⟨j, by omega, b1, b2⟩⟩
theorem CX.put {x : Nat} {C : List Nat} (l : CX M x C) (h : 0 < dg M x) : CX M (x + 1) (ins (clN M x) C) := fun c => by
  rw [mem_ins]
  constructor
  · rintro (rfl | q)
    · exact ⟨x, by omega, h, rfl⟩
    · obtain ⟨j, a, b⟩ := (l c).1 q; exact ⟨j, by omega, b⟩
  · rintro ⟨j, a, b1, b2⟩
    by_cases e : j = x
    · rw [e] at b2; exact .inl b2.symm
    · exact .inr ((l c).2 ⟨j, by omega, b1, b2⟩)
structure SG (A h : Heap) (C : List Nat) : Prop where
  k : Kp (fun _ => False) A h
  gy : h.get A.size = .map (st C)
  gp : h.get (A.size + 1) = .cells 0 1 [.map A.size]
theorem SG.put {A h : Heap} {C : List Nat} (t : SG A h C) (c : Nat) : Eff.app (.mput A.size (st (ins c C))) h = some (h.upd A.size (.map (st (ins c C)))) ∧ SG A (h.upd A.size (.map (st (ins c C)))) (ins c C) := by
  have hN : h.N ≤ A.size := by rw [t.k.N]; unfold Heap.size; omega
  have hlt := get_lt t.gy (by simp)
  exact ⟨mput_gen h _ _ _ hN t.gy, t.k.updn _ _ hN (Nat.le_refl _), upd_same _ _ _ hN hlt, by rw [upd_ne _ _ _ _ hN (by omega)]; exact t.gp⟩
structure C39 (A : Heap) (M : List (List Int)) (qm q8 q9 qc : Nat) : Prop where
  gm : A.get qm = .cells 0 65 (matC M)
  g8 : A.get q8 = .cells 0 64 (bls (ldF M) 64)
  g9 : A.get q9 = .cells 0 1 [.slice qc 0 M.length M.length]
  gc : A.get qc = .cells 1 M.length (gs (clsL M))
theorem C39.kp {A B : Heap} {qm q8 q9 qc : Nat} (c : C39 A M qm q8 q9 qc) (k : Kp (fun _ => False) A B) : C39 B M qm q8 q9 qc :=
  ⟨k.at c.gm (by simp) id, k.at c.g8 (by simp) id, k.at c.g9 (by simp) id, k.at c.gc (by simp) id⟩
theorem c39_s (J : CallF) (hm : isMat M = true) {A : Heap} {qm q8 q9 qc i x : Nat} (C9 : C39 A M qm q8 q9 qc) (hi : i < M.length) (hx : x < M.length) (nb : ¬ bigD M i x) :
    Tr tbl J (.trim [[false], [true, true], [true, false, false], [false, true, false], [true, true, false], [false, true, true, false, false], [true, true, true, false, false]] c39_b1) (fun s h => ∃ C, CX M x C ∧ SG A h C ∧ s.get [false] = G i ∧ s.get [true, true] = .ptr qm 0 65 ∧ s.get [true, false, false] = .ptr q8 0 64 ∧ s.get [false, true, false] = .ptr q9 0 1 ∧ s.get [true, true, false] = .ptr (A.size + 1) 0 1 ∧ s.get [false, true, true, false, false] = G M.length ∧ s.get [true, true, true, false, false] = G x) .normal
      (fun s h => ∃ C, CX M (x + 1) C ∧ SG A h C ∧ s.get [false] = G i ∧ s.get [true, true] = .ptr qm 0 65 ∧ s.get [true, false, false] = .ptr q8 0 64 ∧ s.get [false, true, false] = .ptr q9 0 1 ∧ s.get [true, true, false] = .ptr (A.size + 1) 0 1 ∧ s.get [false, true, true, false, false] = G M.length ∧ s.get [true, true, true, false, false] = G ((x + 1 : Nat) : Int)) := by
  have h8 := isMat_n hm
  have lm := matC_len M
  have e0 : (matC M)[0]? = some (G M.length) := rfl
  have e0' := getI e0
  have l64 := bls_len (ldF M) 64
  have a1 := bls_get (ldF M) (i := i * 8 + x) (by omega) rfl
  have a1' := getI a1
  have lif := ldF_iff hm hi hx
  have cx' : (gs (clsL M))[x]? = some (G (clN M x)) := gl_at _ hx
  have cx'' := getI cx'
  refine Tr.w fun s1 H1 hp R kR => W.trim ?_
  obtain ⟨C, cx, sg, q⟩ := hp
  have C1 := C9.kp sg.k
  have g9 := C1.g9
  have gc := C1.gc
  have g8 := C1.g8
  have gm := C1.gm
  have gp := sg.gp
  have l0 := c39_k (i := i) (x8 := .ptr q8 0 64) (x10 := .ptr (A.size + 1) 0 1) J hm C1.gm C1.g9 C1.gc hx
  rw [show dgF M x 0 = 0 from rfl] at l0
  have ga := mapA_at sg.gy
  have pst := put_st (clN M x) C
  obtain ⟨mp, sg2⟩ := sg.put (clN M x)
  have nd : ldF M (i * 8 + x) = true → ¬ 1 < dg M x := fun h d => nb ⟨hx, lif.1 h, d⟩
  by_cases d : 0 < dg M x
  · have cx2 := cx.put d
    clear C1 C9 hm nb lif sg cx
    generalize ins (clN M x) C = C2 at *
    generalize he2 : st C2 = e2 at *
    generalize st C = e1 at *
    generalize matC M = cm at *
    generalize dg M x = dd at *
    generalize bls (ldF M) 64 = cl at *
    generalize ldF M (i * 8 + x) = bb at *
    generalize clN M x = u at *
    generalize gs (clsL M) = cc at *
    cases bb
    all_goals
      try have nd := nd rfl
      refine W.seq (W.chunk ?_)
      simp (disch := first|omega|exact zE rfl|exact zO|exact zL rfl) [c39_o7, zG, q]
      refine W.seq (W.chunk ?_)
      simp (disch := first|omega|exact zE rfl|exact zO|exact zL rfl) [zG, q]
      refine W.seq (W.block ?_)
      refine W.seq (W.chunk ?_)
      simp (disch := first|omega|exact zE rfl|exact zO|exact zL rfl) [c39_o8, zG, q]
      refine W.seq (W.chunk ?_)
      simp (disch := first|omega|exact zE rfl|exact zO|exact zL rfl) [c39_o9, zG, q]
      refine W.assoc ?_
      refine W.seq (W.chunk ?_)
      simp (disch := first|omega|exact zE rfl|exact zO|exact zL rfl) [c39_o10, zG, q, gm, e0, e0', lm]
      refine W.seq (W.block ?_)
      refine W.use (l0) (by simp (disch := first|omega|exact zE rfl|exact zO|exact zL rfl) [zG, q]) fun s1 H1 hp => ?_
      obtain ⟨rfl, q⟩ := hp
      try simp only [zW, if_true]
      refine W.assoc ?_
      refine W.seq (W.chunk ?_)
      simp (disch := first|omega|exact zE rfl|exact zO|exact zL rfl) [c39_o16, zG, q, g8, a1, a1', l64]
      refine W.seq (W.chunk ?_)
      simp (disch := first|omega|exact zE rfl|exact zO|exact zL rfl) [c39_o17, zG, q]
      refine W.seq (W.chunk ?_)
      simp (disch := first|omega|exact zE rfl|exact zO|exact zL rfl) [c39_o18, zG, q]
      refine W.chunk ?_
      simp (disch := first|omega|exact zE rfl|exact zO|exact zL rfl) [c39_o19, zG, q, gp, g9, gc, cx', cx'', ga, pst, mp, -evDraw_c, evDraw_0]
      refine W.chunk ?_
      simp (disch := first|omega|exact zE rfl|exact zO|exact zL rfl) [c39_o20, zG, q]
      exact kR _ _ ⟨_, cx2, sg2, by simp [T.get, q]⟩
  · have cx2 := cx.skip d
    clear C1 C9 hm nb lif sg2 cx
    generalize matC M = cm at *
    generalize dg M x = dd at *
    generalize bls (ldF M) 64 = cl at *
    generalize ldF M (i * 8 + x) = bb at *
    generalize clN M x = u at *
    generalize gs (clsL M) = cc at *
    cases bb
    all_goals
      refine W.seq (W.chunk ?_)
      simp (disch := first|omega|exact zE rfl|exact zO|exact zL rfl) [c39_o7, zG, q]
      refine W.seq (W.chunk ?_)
      simp (disch := first|omega|exact zE rfl|exact zO|exact zL rfl) [zG, q]
      refine W.seq (W.block ?_)
      refine W.seq (W.chunk ?_)
      simp (disch := first|omega|exact zE rfl|exact zO|exact zL rfl) [c39_o8, zG, q]
      refine W.seq (W.chunk ?_)
      simp (disch := first|omega|exact zE rfl|exact zO|exact zL rfl) [c39_o9, zG, q]
      refine W.assoc ?_
      refine W.seq (W.chunk ?_)
      simp (disch := first|omega|exact zE rfl|exact zO|exact zL rfl) [c39_o10, zG, q, gm, e0, e0', lm]
      refine W.seq (W.block ?_)
      refine W.use (l0) (by simp (disch := first|omega|exact zE rfl|exact zO|exact zL rfl) [zG, q]) fun s1 H1 hp => ?_
      obtain ⟨rfl, q⟩ := hp
      try simp only [zW, if_true]
      refine W.assoc ?_
      refine W.seq (W.chunk ?_)
      simp (disch := first|omega|exact zE rfl|exact zO|exact zL rfl) [c39_o16, zG, q, g8, a1, a1', l64]
      refine W.seq (W.chunk ?_)
      simp (disch := first|omega|exact zE rfl|exact zO|exact zL rfl) [c39_o17, zG, q]
      refine W.seq (W.chunk ?_)
      simp (disch := first|omega|exact zE rfl|exact zO|exact zL rfl) [c39_o18, zG, q]
      refine W.chunk ?_
      simp (disch := first|omega|exact zE rfl|exact zO|exact zL rfl) [c39_o19, zG, q, -evDraw_c, evDraw_0]
      refine W.chunk ?_
      simp (disch := first|omega|exact zE rfl|exact zO|exact zL rfl) [c39_o20, zG, q]
      exact kR _ _ ⟨_, cx2, sg, by simp [T.get, q]⟩
end
section
variable {M : List (List Int)}
theorem c39_t (J : CallF) (hm : isMat M = true) {A : Heap} {qm q8 q9 qc i j0 : Nat} (C9 : C39 A M qm q8 q9 qc) (hi : i < M.length) (hb : bigD M i j0) (hn : ∀ k, k < j0 → ¬ bigD M i k) : ∀ d x, x + d = j0 →
    Tr tbl J c39_l1 (fun s h => ∃ C, CX M x C ∧ SG A h C ∧ s.get [false] = G i ∧ s.get [true, true] = .ptr qm 0 65 ∧ s.get [true, false, false] = .ptr q8 0 64 ∧ s.get [false, true, false] = .ptr q9 0 1 ∧ s.get [true, true, false] = .ptr (A.size + 1) 0 1 ∧ s.get [false, true, true, false, false] = G M.length ∧ s.get [true, true, true, false, false] = G x) .ret (fun s h => s.get [true, false] = G (-2) ∧ s.get [false, true] = G 0) := by
  have h8 := isMat_n hm
  have lm := matC_len M
  have e0 : (matC M)[0]? = some (G M.length) := rfl
  have e0' := getI e0
  have l64 := bls_len (ldF M) 64
  intro d
  induction d with
  | zero =>
    intro x hx
    obtain rfl : x = j0 := by omega
    obtain ⟨hx, r, nd⟩ := hb
    have a1 := bls_get (ldF M) (i := i * 8 + x) (by omega) ((ldF_iff hm hi hx).2 r)
    have a1' := getI a1
    refine Tr.out ?_ (by simp)
    refine Tr.w fun s1 H1 hp R kR => W.trim ?_
    obtain ⟨C, cx, sg, q⟩ := hp
    have C1 := C9.kp sg.k
    have g8 := C1.g8
    have gm := C1.gm
    have l0 := c39_k (i := i) (x8 := .ptr q8 0 64) (x10 := .ptr (A.size + 1) 0 1) J hm C1.gm C1.g9 C1.gc hx
    rw [show dgF M x 0 = 0 from rfl] at l0
    clear C1 C9 hm r sg cx hn
    generalize matC M = cm at *
    generalize dg M x = dd at *
    generalize bls (ldF M) 64 = cl at *
    refine W.seq (W.chunk ?_)
    simp (disch := first|omega|exact zE rfl|exact zO|exact zL rfl) [c39_o7, zG, q]
    refine W.seq (W.chunk ?_)
    simp (disch := first|omega|exact zE rfl|exact zO|exact zL rfl) [zG, q]
    refine W.seq (W.block ?_)
    refine W.seq (W.chunk ?_)
    simp (disch := first|omega|exact zE rfl|exact zO|exact zL rfl) [c39_o8, zG, q]
    refine W.seq (W.chunk ?_)
    simp (disch := first|omega|exact zE rfl|exact zO|exact zL rfl) [c39_o9, zG, q]
    refine W.assoc ?_
    refine W.seq (W.chunk ?_)
    simp (disch := first|omega|exact zE rfl|exact zO|exact zL rfl) [c39_o10, zG, q, gm, e0, e0', lm]
    refine W.seq (W.block ?_)
    refine W.use (l0) (by simp (disch := first|omega|exact zE rfl|exact zO|exact zL rfl) [zG, q]) fun s1 H1 hp => ?_
    obtain ⟨rfl, q⟩ := hp
    try simp only [zW, if_true]
    refine W.assoc ?_
    refine W.seq (W.chunk ?_)
    simp (disch := first|omega|exact zE rfl|exact zO|exact zL rfl) [c39_o16, zG, q, g8, a1, a1', l64]
    refine W.seq (W.chunk ?_)
    simp (disch := first|omega|exact zE rfl|exact zO|exact zL rfl) [c39_o17, zG, q]
    exact kR _ _ (by simp [T.get, q])
  | succ d ih =>
    intro x hx
    exact Tr.next (c39_s J hm C9 hi (by have := hb.1; omega) (hn x (by omega))) (ih (x + 1) (by omega))
theorem c39_n (J : CallF) (hm : isMat M = true) {A : Heap} {qm q8 q9 qc i : Nat} (C9 : C39 A M qm q8 q9 qc) (hi : i < M.length) (hn : ∀ k, ¬ bigD M i k) : ∀ d x, x + d = M.length →
    Tr tbl J c39_l1 (fun s h => ∃ C, CX M x C ∧ SG A h C ∧ s.get [false] = G i ∧ s.get [true, true] = .ptr qm 0 65 ∧ s.get [true, false, false] = .ptr q8 0 64 ∧ s.get [false, true, false] = .ptr q9 0 1 ∧ s.get [true, true, false] = .ptr (A.size + 1) 0 1 ∧ s.get [false, true, true, false, false] = G M.length ∧ s.get [true, true, true, false, false] = G x) (.exit 0)
      (fun s h => ∃ C, CX M M.length C ∧ SG A h C ∧ s.get [false] = G i ∧ s.get [true, true] = .ptr qm 0 65 ∧ s.get [true, false, false] = .ptr q8 0 64 ∧ s.get [false, true, false] = .ptr q9 0 1 ∧ s.get [true, true, false] = .ptr (A.size + 1) 0 1) := by
  have h8 := isMat_n hm
  intro d
  induction d with
  | zero =>
    intro x hx
    obtain rfl : x = M.length := by omega
    refine Tr.out ?_ (by simp)
    refine Tr.w fun s1 H1 hp R kR => W.trim ?_
    obtain ⟨C, cx, sg, q⟩ := hp
    clear C9 hm hn
    generalize hnn : M.length = n at *
    refine W.seq (W.chunk ?_)
    simp (disch := first|omega|exact zE rfl|exact zO|exact zL rfl) [c39_o7, zG, q]
    refine W.seq (W.chunk ?_)
    simp (disch := first|omega|exact zE rfl|exact zO|exact zL rfl) [zG, q]
    exact kR _ _ ⟨C, cx, sg, by simp [T.get, q]⟩
  | succ d ih =>
    intro x hx
    exact Tr.next (c39_s J hm C9 hi (by omega) (hn x)) (ih (x + 1) (by omega))
theorem c39_bad (J : CallF) (k54 : K54 J) (hJ : ∀ a h, J 39 a h = none) (h : Heap) (i : Int) {y : AV} (hy : MR h y M) (hm : isMat M = false) : CallsTo tbl J 39 [y, G i] h (.tup [G 0, G 2], [], false) := by
  refine Tr.fnv (cf := c39) (e := .ret) (s := T.set (T.set .leaf [] y) [false] (G i)) (by decide) rfl (hJ _ _) rfl rfl rfl (by simp) ?_
  obtain ⟨cs, k54, hl, hc⟩ := k54 ⟨h.get, h.size, []⟩ y M (hy.lo [])
  have rp : (List.replicate 65 (AV.int .i64 0)).length = 65 := List.length_replicate
  have ep : putAt (List.replicate 65 (AV.int .i64 0)) 0 cs = cs := putAt_all _ _ (by omega)
  refine Tr.w fun s1 H1 hp R kR => ?_
  obtain ⟨rfl, rfl⟩ := hp
  have q : True := trivial
  generalize hZ : List.replicate 65 (AV.int .i64 0) = Z at *
  rw [hm] at k54
  refine W.seq (W.chunk ?_)
  simp (disch := first|omega|exact zE rfl|exact zO|exact zL rfl) [-List.reduceReplicate, c39_o0, size_mk, get_mk_lt, get_mk_ge, frameOf, Eff.app, Heap.setOwn, q]
  refine W.seq (W.chunk ?_)
  simp (disch := first|omega|exact zE rfl|exact zO|exact zL rfl) [-List.reduceReplicate, c39_o1, size_mk, get_mk_lt, get_mk_ge, frameOf, Eff.app, Heap.setOwn, q, k54, hZ, ep, rp, hl, frameOf]
  refine W.assoc ?_
  refine W.seq (W.chunk ?_)
  simp (disch := first|omega|exact zE rfl|exact zO|exact zL rfl) [-List.reduceReplicate, c39_o2, size_mk, get_mk_lt, get_mk_ge, frameOf, Eff.app, Heap.setOwn, q]
  refine W.seq (W.chunk ?_)
  simp (disch := first|omega|exact zE rfl|exact zO|exact zL rfl) [-List.reduceReplicate, c39_o3, size_mk, get_mk_lt, get_mk_ge, frameOf, Eff.app, Heap.setOwn, q]
  exact kR _ _ ⟨[G 0, G 2], by simp [T.get, c39, evRess, evRes], rfl⟩
theorem c39_out (J : CallF) (k54 : K54 J) (k57 : K57 J) (hJ : ∀ a h, J 39 a h = none) (h : Heap) (i : Int) {y : AV} (hy : MR h y M) (hm : isMat M = true) (hi : ¬ (0 ≤ i ∧ i < M.length)) : CallsTo tbl J 39 [y, G i] h (.tup [G 0, G 2], [], false) := by
  refine Tr.fnv (cf := c39) (e := .ret) (s := T.set (T.set .leaf [] y) [false] (G i)) (by decide) rfl (hJ _ _) rfl rfl rfl (by simp) ?_
  have h8 := isMat_n hm
  obtain ⟨cs, k54, hl, hc⟩ := k54 ⟨h.get, h.size, []⟩ y M (hy.lo [])
  have rp : (List.replicate 65 (AV.int .i64 0)).length = 65 := List.length_replicate
  obtain rfl := hc hm
  have ep : putAt (List.replicate 65 (AV.int .i64 0)) 0 (matC M) = matC M := putAt_all _ _ (by omega)
  have e0 : (matC M)[0]? = some (G M.length) := rfl
  have e0' := getI e0
  have d : ¬ (0 ≤ i ∧ i ≤ (M.length : Int) - 1) := by omega
  have k57' := fun h => k57 i 0 ((M.length : Int) - 1) h
  rw [decide_eq_false d] at k57'
  refine Tr.w fun s1 H1 hp R kR => ?_
  obtain ⟨rfl, rfl⟩ := hp
  have q : True := trivial
  generalize hZ : List.replicate 65 (AV.int .i64 0) = Z at *
  rw [hm] at k54
  clear hi d
  generalize matC M = cm at *
  refine W.seq (W.chunk ?_)
  simp (disch := first|omega|exact zE rfl|exact zO|exact zL rfl) [-List.reduceReplicate, c39_o0, size_mk, get_mk_lt, get_mk_ge, frameOf, Eff.app, Heap.setOwn, q]
  refine W.seq (W.chunk ?_)
  simp (disch := first|omega|exact zE rfl|exact zO|exact zL rfl) [-List.reduceReplicate, c39_o1, size_mk, get_mk_lt, get_mk_ge, frameOf, Eff.app, Heap.setOwn, q, k54, hZ, ep, rp, hl, frameOf]
  refine W.assoc ?_
  refine W.seq (W.chunk ?_)
  simp (disch := first|omega|exact zE rfl|exact zO|exact zL rfl) [-List.reduceReplicate, c39_o2, size_mk, get_mk_lt, get_mk_ge, frameOf, Eff.app, Heap.setOwn, q, e0, e0', hl, k57', app_if, app_if']
  refine W.seq (W.chunk ?_)
  simp (disch := first|omega|exact zE rfl|exact zO|exact zL rfl) [-List.reduceReplicate, c39_o3, size_mk, get_mk_lt, get_mk_ge, frameOf, Eff.app, Heap.setOwn, q]
  exact kR _ _ ⟨[G 0, G 2], by simp [T.get, c39, evRess, evRes], rfl⟩
theorem g39_fin {A H : Heap} {qm q8 q9 qc : Nat} {C : List Nat} (C9 : C39 A M qm q8 q9 qc) (sg : SG A H C) :
    ∃ b14 b15 q10, A.size + 1 = q10 ∧ (H.plus [.map []]).size = b14 ∧ ((H.plus [.map []]).plus [.cells 0 1 [.map H.size]]).size = b15 ∧
      CG (((H.plus [.map []]).plus [.cells 0 1 [.map H.size]]).plus [.cells 0 1 [.func 68 (capG b14 qm q9 q8 b15 q10)]]) M b14 H.size qm q9 qc q8 b15 q10 A.size C ∧
      (((H.plus [.map []]).plus [.cells 0 1 [.map H.size]]).plus [.cells 0 1 [.func 68 (capG b14 qm q9 q8 b15 q10)]]).get H.size = .map (sv (fun c => (chv M c : Int)) []) := by
  refine ⟨_, _, _, rfl, rfl, rfl, ?_, ?_⟩
  · have k1 : Kp (fun _ => False) H (((H.plus [.map []]).plus [.cells 0 1 [.map H.size]]).plus [.cells 0 1 [.func 68 (capG (H.plus [.map []]).size qm q9 q8 ((H.plus [.map []]).plus [.cells 0 1 [.map H.size]]).size (A.size + 1))]]) := ((Kp.plus _ _).trans (Kp.plus _ _)).trans (Kp.plus _ _)
    have c := (C9.kp sg.k).kp k1
    exact ⟨plus_keep _ (plus_at0 _ _ _ _ rfl) (by simp), c.gm, c.g9, c.gc, c.g8, plus_at0 _ _ _ _ rfl, k1.at sg.gp (by simp) id, k1.at sg.gy (by simp) id, by rw [k1.N]; unfold Heap.size; omega, by have := get_lt sg.gy (by simp); omega⟩
  · exact plus_keep _ (plus_keep _ (plus_at0 _ _ _ _ rfl) (by simp)) (by simp)
theorem c39_ok (J : CallF) (k54 : K54 J) (k57 : K57 J) (k62 : K62 J) (k67 : K67 J) (h68 : ∀ a h, J 68 a h = none) (hJ : ∀ a h, J 39 a h = none) (h : Heap) {i : Nat} {y : AV} (hy : MR h y M) (hm : isMat M = true) (hi : i < M.length) : CallsTo tbl J 39 [y, G i] h (.tup [G (gwV M i), G 0], [], false) := by
  refine Tr.fnv (cf := c39) (e := .ret) (s := T.set (T.set .leaf [] y) [false] (G i)) (by decide) rfl (hJ _ _) rfl rfl rfl (by simp) ?_
  have h8 := isMat_n hm
  have fs := fr_size h
  obtain ⟨cs, k54, hl, hc⟩ := k54 (frameOf h) y M (hy.lo [])
  have rp : (List.replicate 65 (AV.int .i64 0)).length = 65 := List.length_replicate
  obtain rfl := hc hm
  have ep : putAt (List.replicate 65 (AV.int .i64 0)) 0 (matC M) = matC M := putAt_all _ _ (by omega)
  have e0 : (matC M)[0]? = some (G M.length) := rfl
  have e0' := getI e0
  have gm : ((frameOf h).plus [.cells 0 65 (matC M)]).get h.size = .cells 0 65 (matC M) := plus_at0 _ _ _ _ fs
  have d : 0 ≤ (i : Int) ∧ (i : Int) ≤ (M.length : Int) - 1 := by omega
  have k57' := fun h => k57 i 0 ((M.length : Int) - 1) h
  rw [decide_eq_true d] at k57'
  have kA : Kp (fun _ => False) (frameOf h) ((frameOf h).plus [.cells 0 65 (matC M)]) := Kp.plus _ _
  obtain ⟨A, qc, kB, g8, g9, gc, t4⟩ := n39_4 (i := i) J k67 k62 hm gm
  have gA := kB.at gm (by simp) id
  generalize hF : (frameOf h).plus [.cells 0 65 (matC M)] = F at *
  have C9 : C39 A M h.size F.size (F.size + 1) qc := ⟨gA, g8, g9, gc⟩
  have sg0 : SG A ((A.plus [.map []]).plus [.cells 0 1 [.map A.size]]) [] := ⟨(Kp.plus _ _).trans (Kp.plus _ _), plus_keep _ (plus_at0 _ _ _ _ rfl) (by simp), by rw [plus_at0 _ _ _ _ (by rw [plus_size]; rfl)]⟩
  have p0 : Eff.app (.put (A.size + 1) 1 0 [.map A.size]) ((A.plus [.map []]).plus [.cells 0 1 [.nilm]]) = some ((A.plus [.map []]).plus [.cells 0 1 [.map A.size]]) := put_plus0 (A.plus [.map []]) 1 0 0 [.nilm] [.map A.size] [] (A.size + 1) (by rw [plus_size]; rfl) (by simp)
  have gA2 := sg0.k.at gA (by simp) id
  have ex : ∃ C, CX M 0 C ∧ SG A ((A.plus [.map []]).plus [.cells 0 1 [.map A.size]]) C := ⟨[], CX.init, sg0⟩
  refine Tr.w fun s1 H1 hp R kR => ?_
  obtain ⟨rfl, rfl⟩ := hp
  have q : True := trivial
  generalize hZ : List.replicate 65 (AV.int .i64 0) = Z at *
  rw [hm] at k54
  clear d hc
  rcases gw_or M i with ⟨j0, hb, hn⟩ | hn
  · have l1 := c39_t J hm C9 hi hb hn j0 0 (by omega)
    rw [gw_t hb] at kR
    clear C9 hb hn hy kA kB g8 g9 gc sg0
    generalize hcm : matC M = cm at *
    refine W.seq (W.chunk ?_)
    simp (disch := first|omega|exact zE rfl|exact zO|exact zL rfl) [-List.reduceReplicate, c39_o0, zG, q]
    refine W.seq (W.chunk ?_)
    simp (disch := first|omega|exact zE rfl|exact zO|exact zL rfl) [-List.reduceReplicate, c39_o1, zG, q, k54, hZ, ep, rp, hl, app_if, app_if', fs, hF]
    refine W.assoc ?_
    refine W.seq (W.chunk ?_)
    simp (disch := first|omega|exact zE rfl|exact zO|exact zL rfl) [-List.reduceReplicate, c39_o2, zG, q, gm, e0, e0', hl, k57', app_if, app_if']
    refine W.seq (W.chunk ?_)
    simp (disch := first|omega|exact zE rfl|exact zO|exact zL rfl) [-List.reduceReplicate, c39_o3, zG, q]
    refine W.seq (W.use (t4) (by simp (disch := first|omega|exact zE rfl|exact zO|exact zL rfl) [-List.reduceReplicate, zG, q]) fun s1 H1 hp => ?_)
    obtain ⟨rfl, q⟩ := hp
    try simp only [zW, if_true]
    refine W.seq (W.chunk ?_)
    simp (disch := first|omega|exact zE rfl|exact zO|exact zL rfl) [-List.reduceReplicate, c39_o5, zG, q, p0, plus_size]
    refine W.assoc ?_
    refine W.seq (W.chunk ?_)
    simp (disch := first|omega|exact zE rfl|exact zO|exact zL rfl) [-List.reduceReplicate, c39_o6, zG, q, gA2, e0, e0', hl]
    refine W.seq (W.block ?_)
    refine W.use (l1) (by simp (disch := first|omega|exact zE rfl|exact zO|exact zL rfl) [-List.reduceReplicate, zG, q, ex]) fun s1 H1 hp => ?_
    obtain ⟨q4, q5⟩ := hp
    try simp only [zW, if_true]
    exact kR _ _ ⟨[G (-2), G 0], by simp [T.get, c39, evRess, evRes, q4, q5], rfl⟩
  · have l1 := c39_n J hm C9 hi hn M.length 0 (by omega)
    rw [gw_f hn] at kR
    have bd := chv_bd hm hi
    obtain ⟨hcn, hmu, _⟩ := clN_ok hm hi
    have hcn : clN M i < M.length := by omega
    have hid := clN_id hm hi
    have ci : (gs (clsL M))[i]? = some (G (clN M i)) := gl_at _ hi
    have ci' := getI ci
    refine W.seq (W.chunk ?_)
    simp (disch := first|omega|exact zE rfl|exact zO|exact zL rfl) [-List.reduceReplicate, c39_o0, zG, q]
    refine W.seq (W.chunk ?_)
    simp (disch := first|omega|exact zE rfl|exact zO|exact zL rfl) [-List.reduceReplicate, c39_o1, zG, q, k54, hZ, ep, rp, hl, app_if, app_if', fs, hF]
    refine W.assoc ?_
    refine W.seq (W.chunk ?_)
    simp (disch := first|omega|exact zE rfl|exact zO|exact zL rfl) [-List.reduceReplicate, c39_o2, zG, q, gm, e0, e0', hl, k57', app_if, app_if']
    refine W.seq (W.chunk ?_)
    simp (disch := first|omega|exact zE rfl|exact zO|exact zL rfl) [-List.reduceReplicate, c39_o3, zG, q]
    refine W.seq (W.use (t4) (by simp (disch := first|omega|exact zE rfl|exact zO|exact zL rfl) [-List.reduceReplicate, zG, q]) fun s1 H1 hp => ?_)
    obtain ⟨rfl, q⟩ := hp
    try simp only [zW, if_true]
    refine W.seq (W.chunk ?_)
    simp (disch := first|omega|exact zE rfl|exact zO|exact zL rfl) [-List.reduceReplicate, c39_o5, zG, q, p0, plus_size]
    refine W.assoc ?_
    refine W.seq (W.chunk ?_)
    simp (disch := first|omega|exact zE rfl|exact zO|exact zL rfl) [-List.reduceReplicate, c39_o6, zG, q, gA2, e0, e0', hl]
    refine W.seq (W.block ?_)
    refine W.use (l1) (by simp (disch := first|omega|exact zE rfl|exact zO|exact zL rfl) [-List.reduceReplicate, zG, q, ex]) fun s1 H1 hp => ?_
    obtain ⟨C, cx, sg, q⟩ := hp
    try simp only [zW, if_true]
    refine W.seq (W.chunk ?_)
    simp (disch := first|omega|exact zE rfl|exact zO|exact zL rfl) [-List.reduceReplicate, c39_o21, zG, q]
    refine W.seq (W.chunk ?_)
    simp (disch := first|omega|exact zE rfl|exact zO|exact zL rfl) [-List.reduceReplicate, c39_o22, zG, q]
    refine W.seq (W.chunk ?_)
    simp (disch := first|omega|exact zE rfl|exact zO|exact zL rfl) [-List.reduceReplicate, c39_o23, zG, q]
    refine W.fix fun B hB => ?_
    obtain ⟨b14, b15, q10, hq10, hb14, hb15, cg, gz⟩ := g39_fin C9 sg
    rw [hq10, hb14, hb15] at hB
    rw [hq10, hb14, hb15]
    rw [show capG b14 h.size (F.size + 1) F.size b15 q10 = [AV.ptr b14 0 1, .ptr h.size 0 65, .ptr (F.size + 1) 0 1, .ptr F.size 0 64, .ptr b15 0 1, .ptr q10 0 1] from rfl, ← hB] at cg gz
    obtain ⟨K', rg, call⟩ := c68_ok J h68 hm cx _ (clN M i) hcn hid rfl B [] cg gz
    rw [← chv_mu hm hi hcn hmu] at call
    refine W.point (by decide) call ?_
    have k68 := pt_at (I := J) (f := 68) (args := G (clN M i) :: capG b14 h.size (F.size + 1) F.size b15 q10) (h := B) (x := (G (chv M i), K'.own, true))
    generalize pt J 68 (G (clN M i) :: capG b14 h.size (F.size + 1) F.size b15 q10) B (G (chv M i), K'.own, true) = J at *
    have g15 := cg.g15
    have g9 := cg.g9
    have gc := cg.gc
    generalize chv M i = z at *
    generalize clN M i = c at *
    generalize gs (clsL M) = cc at *
    refine W.seq (W.chunk ?_)
    simp (disch := first|omega|exact zE rfl|exact zO|exact zL rfl) [-List.reduceReplicate, c39_o24, zG, q, g15, g9, gc, ci, ci', k68, -evDraw_c, evDraw_0]
    refine W.ret ?_
    try simp only [zW, if_true]
    exact kR _ _ ⟨[G (z - 1 : Int), G 0], by simp (disch := omega) [T.get, c39, evRess, evRes], rfl⟩
end
def Post39 (a : AL) (_ : Heap) (v : AV) (own : List AObj) : Prop := own = [] ∧ (¬ inL a → v = .tup [G 0, G 2]) ∧ (inL a → v = .tup [G (gwV a.M a.i.toNat), G 0])
noncomputable def T38 : CallF := addK tbl T37 39 PreL Post39
theorem t38 : Sound Go.Proofs.Try.prog T38 := Sound.addK follows ok t37 (by decide) _ _
abbrev K39 (J : CallF) : Prop := ∀ (h : Heap) (a : AL), MR h a.y a.M → ∃ v own, J 39 [a.y, G a.i] h = some (v, own, false) ∧ Post39 a h v own
theorem k54_37 : K54 T37 := fun h y M hy => by
  simp (disch := decide) only [T37, T36, T35, T34, T33, T32, T31, T30, T29, T28, T27, T26, T25, T24, T23, T22, T21, T20, T19, T18, T17, T16, T15, T14, T13, T12, T11, T10, T9, T8, T7, T6, T5, T4, T3, T2, T1, R21, R20, R19, R18, R17, R16, R15, R14, R13, R12, R11, R10, R9, R8, R7, R6, R5, R4, R3, R2, R1, addI_ne, addX_ne, addV_ne, addK_ne]
  exact k54 h y M hy
theorem k57_37 : K57 T37 := fun n lo hi h => by
  simp (disch := decide) only [T37, T36, T35, T34, T33, T32, T31, T30, T29, T28, T27, T26, T25, T24, T23, T22, T21, T20, T19, T18, T17, T16, T15, T14, T13, T12, T11, T10, T9, T8, T7, T6, T5, T4, T3, T2, T1, R21, R20, R19, R18, R17, R16, R15, R14, R13, R12, R11, R10, R9, R8, R7, R6, R5, R4, R3, R2, R1, addI_ne, addX_ne, addV_ne, addK_ne]
  exact k57 n lo hi h
theorem k62_37 : K62 T37 := fun h M hm => by
  simp (disch := decide) only [T37, T36, T35, T34, T33, T32, T31, T30, T29, T28, T27, T26, T25, T24, T23, T22, T21, T20, T19, T18, T17, T16, T15, T14, T13, T12, T11, T10, T9, T8, T7, addK_ne]
  exact k62 h M hm
theorem k67_37 : K67 T37 := fun h M hm => by
  simp (disch := decide) only [T37, T36, T35, T34, T33, T32, T31, T30, T29, T28, T27, T26, T25, T24, T23, T22, T21, T20, T19, T18, T17, T16, T15, T14, T13, T12, T11, T10, T9, T8, T7, T6, addK_ne]
  exact k67 h M hm
theorem k39 : K39 T38 := fun h a ha => addK_some (Pre := PreL) (Post := Post39) (fun a args h hp => by
  obtain ⟨hy, rfl⟩ := hp
  have hn : ∀ a h, T37 39 a h = none := (fun _ _ => by simp (disch := decide) only [T37, T36, T35, T34, T33, T32, T31, T30, T29, T28, T27, T26, T25, T24, T23, T22, T21, T20, T19, T18, T17, T16, T15, T14, T13, T12, T11, T10, T9, T8, T7, T6, T5, T4, T3, T2, T1, R21, R20, R19, R18, R17, R16, R15, R14, R13, R12, R11, R10, R9, R8, R7, R6, R5, R4, R3, R2, R1, addI_ne, addX_ne, addV_ne, addK_ne]; rfl)
  by_cases c : inL a
  · obtain ⟨c1, c2, c3⟩ := id c
    obtain ⟨i, hi⟩ : ∃ i : Nat, a.i = i := ⟨a.i.toNat, by omega⟩
    have hi2 : a.i.toNat = i := by omega
    refine ⟨_, _, ?_, rfl, fun n => absurd c n, fun _ => rfl⟩
    rw [hi2, hi]
    exact c39_ok T37 k54_37 k57_37 k62_37 k67_37 (fun _ _ => by simp (disch := decide) only [T37, T36, T35, T34, T33, T32, T31, T30, T29, T28, T27, T26, T25, T24, T23, T22, T21, T20, T19, T18, T17, T16, T15, T14, T13, T12, T11, T10, T9, T8, T7, T6, T5, T4, T3, T2, T1, R21, R20, R19, R18, R17, R16, R15, R14, R13, R12, R11, R10, R9, R8, R7, R6, R5, R4, R3, R2, R1, addI_ne, addX_ne, addV_ne, addK_ne]; rfl) hn h hy c1 (by omega)
  · refine ⟨_, _, ?_, rfl, fun _ => rfl, fun q => absurd q c⟩
    cases w : isMat a.M
    · exact c39_bad T37 k54_37 hn h a.i hy w
    · exact c39_out T37 k54_37 k57_37 hn h a.i hy w fun q => c ⟨w, q⟩) a _ h ⟨ha, rfl⟩
end Go.Proofs.Ytjeemgaoonapgaa.Ev
set_option linter.unusedVariables false
set_option linter.unusedSimpArgs false
namespace Go.Proofs.Ytjeemgaoonapgaa.Ev
open Go Go.AEv
theorem sm_pos {f : Nat → Int} (h : ∀ k, 0 ≤ f k) : ∀ {n}, 0 < sm f n ↔ ∃ k, k < n ∧ 0 < f k
  | 0 => ⟨fun a => (by have : (0 : Int) < 0 := a; omega), fun ⟨k, a, _⟩ => by omega⟩
  | n + 1 => by
    have a := sm_nn h n
    have b := h n
    have ih := sm_pos h (n := n)
    constructor
    · intro q
      have q : 0 < sm f n + f n := q
      by_cases c : 0 < f n
      · exact ⟨n, by omega, c⟩
      · obtain ⟨k, x, y⟩ := ih.1 (by omega)
        exact ⟨k, by omega, y⟩
    · rintro ⟨k, x, y⟩
      show 0 < sm f n + f n
      by_cases e : k = n
      · subst e; omega
      · have := ih.2 ⟨k, by omega, y⟩
        omega
section
variable {M : List (List Int)}
theorem pwX_pos (hm : isMat M = true) {i : Nat} (hi : i < M.length) : ∀ {k j}, j < M.length → (0 < pwX M k (i * 8 + j) ↔ Wk M k i j)
  | 0, j, hj => by
    have h8 := isMat_n hm
    show 0 < onF M.length (i * 8 + j) ↔ i = j
    unfold onF
    by_cases e : i = j
    · rw [if_pos (by omega)]; simp [e]
    · rw [if_neg (by omega)]; simp [e]
  | k + 1, j, hj => by
    have h8 := isMat_n hm
    have nn : ∀ h, 0 ≤ pwX M k (i * 8 + h) * ent M h j := fun h => Int.mul_nonneg (pwX_le hm k _).1 (ent_bd hm h j).1
    rw [pwX_s hi (by omega), sm_pos nn, Wk.snoc]
    constructor
    · rintro ⟨v, a, b⟩
      have p1 := (pwX_le hm k (i * 8 + v)).1
      have e1 := (ent_bd hm v j).1
      have p2 : 0 < pwX M k (i * 8 + v) := by
        rcases Int.lt_or_eq_of_le p1 with x | x
        · exact x
        · rw [← x, Int.zero_mul] at b; omega
      have e2 : 0 < ent M v j := by
        rcases Int.lt_or_eq_of_le e1 with x | x
        · exact x
        · rw [← x, Int.mul_zero] at b; omega
      exact ⟨v, (pwX_pos hm hi a).1 p2, e2⟩
    · rintro ⟨v, a, b⟩
      have hv := (ent_lt hm b).1
      exact ⟨v, hv, Int.mul_pos ((pwX_pos hm hi hv).2 a) b⟩
theorem dt_one (hm : isMat M = true) (h1 : ∀ i j, ent M i j ≤ 1) {X : Nat → Int} {B : Int} (hB : 0 ≤ B) (hX : ∀ x, 0 ≤ X x ∧ X x ≤ B) (i j : Nat) : ∀ k : Nat, dt M X i j k ≤ k * B
  | 0 => by simp [dt]
  | k + 1 => by
    have a := dt_one hm h1 hB hX i j k
    have e := (ent_bd hm k j).1
    have e1 := h1 k j
    have b : X (i * 8 + k) * ent M k j ≤ B * 1 := Int.mul_le_mul (hX _).2 e1 e hB
    show dt M X i j k + X (i * 8 + k) * ent M k j ≤ ((k + 1 : Nat) : Int) * B
    rw [Int.natCast_add, Int.add_mul]
    show _ ≤ (k : Int) * B + 1 * B
    omega
theorem pwX_one (hm : isMat M = true) (h1 : ∀ i j, ent M i j ≤ 1) : ∀ k x, 0 ≤ pwX M k x ∧ pwX M k x ≤ (8 : Int) ^ k
  | 0, x => by
    show 0 ≤ onF M.length x ∧ onF M.length x ≤ 1
    unfold onF
    split <;> decide
  | k + 1, x => by
    have ih := pwX_one hm h1 k
    have h8 := isMat_n hm
    have hB : (0 : Int) ≤ 8 ^ k := Int.le_trans (ih 0).1 (ih 0).2
    show 0 ≤ prF M (pwX M k) x ∧ prF M (pwX M k) x ≤ 8 ^ (k + 1)
    have hp : (8 : Int) ^ (k + 1) = 8 ^ k * 8 := Int.pow_succ _ _
    unfold prF
    by_cases c : x / 8 < M.length
    · rw [if_pos c]
      refine ⟨dt_nn hm (fun x => (ih x).1) _ _ _, ?_⟩
      have a := dt_one hm h1 hB ih (x / 8) (x % 8) M.length
      have b : (M.length : Int) * (8 : Int) ^ k ≤ 8 * (8 : Int) ^ k := Int.mul_le_mul_of_nonneg_right (by omega) hB
      rw [hp]
      generalize (8 : Int) ^ k = B at *
      omega
    · rw [if_neg c]
      exact ⟨Int.le_refl _, by rw [hp]; omega⟩
theorem p8_le : ∀ d m : Nat, m + d = 19 → (8 : Int) ^ m ≤ 8 ^ 19 ∧ 0 ≤ (8 : Int) ^ m
  | 0, m, h => by
    obtain rfl : m = 19 := by omega
    exact ⟨Int.le_refl _, by decide⟩
  | d + 1, m, h => by
    have a := p8_le d (m + 1) (by omega)
    have hp : (8 : Int) ^ (m + 1) = 8 ^ m * 8 := Int.pow_succ _ _
    rw [hp] at a
    generalize (8 : Int) ^ m = B at *
    omega
theorem okP_one (hm : isMat M = true) (h1 : ∀ i j, ent M i j ≤ 1) {k : Nat} (hk : k ≤ 19) : okP M k := fun m hmk i _ hi j _ hj => by
  have h8 := isMat_n hm
  have h := (pwX_one hm h1 (m + 1) (i * 8 + j)).2
  have e : pwX M (m + 1) (i * 8 + j) = dt M (pwX M m) i j M.length := by
    show prF M (pwX M m) (i * 8 + j) = _
    unfold prF
    rw [show (i * 8 + j) / 8 = i by omega, show (i * 8 + j) % 8 = j by omega, if_pos hi]
  rw [e] at h
  exact Int.le_trans h (Int.le_trans (p8_le (19 - (m + 1)) (m + 1) (by omega)).1 (by decide))
theorem chv_ge (hm : isMat M = true) {i j : Nat} (hi : i < M.length) (hj : j < M.length) (r : Rc M i j) : chv M j ≤ chv M i := by
  by_cases e : clN M j = clN M i
  · rw [chv_mu hm hj hi ((clN_eq hm hj hi).1 e)]; exact Nat.le_refl _
  · have := mxN_ge (f := chT M i) hj
    rw [chT_t r e] at this
    rw [chv_eq hm hi]; omega
theorem per_chv (hm : isMat M = true) {j : Nat} (hj : j < M.length) (h : perN M j ≠ 0) : 1 ≤ chv M j := by
  rw [chv_eq hm hj, if_neg h]; omega
theorem chv_ex (hm : isMat M = true) : ∀ r i, i < M.length → rkN M i = r → 1 ≤ chv M i → ∃ j, j < M.length ∧ Rc M i j ∧ perN M j ≠ 0 := fun r => by
  induction r using Nat.strongRecOn with
  | _ r ih =>
    intro i hi e h
    by_cases p : perN M i = 0
    · rw [chv_eq hm hi, if_pos p] at h
      have : ∃ j, j < M.length ∧ 1 ≤ chT M i j := Classical.byContradiction fun n => by
        have : mxN (chT M i) M.length ≤ 0 := mxN_le fun j hj => by
          refine Nat.le_of_not_lt fun x => n ⟨j, hj, x⟩
        omega
      obtain ⟨j, hj, x⟩ := this
      by_cases c : Rc M i j ∧ clN M j ≠ clN M i
      · rw [chT_t c.1 c.2] at x
        obtain ⟨z, a, b, d⟩ := ih _ (by have := rk_lt hm hi hj c.1 c.2; omega) j hj rfl x
        exact ⟨z, a, c.1.trans b, d⟩
      · rw [chT_f c] at x; omega
    · exact ⟨i, hi, Rc.refl i, p⟩
theorem long_iff (hm : isMat M = true) {i : Nat} (hi : i < M.length) : (∃ y, Wk M M.length i y) ↔ ∃ j, j < M.length ∧ Rc M i j ∧ perN M j ≠ 0 := by
  constructor
  · rintro ⟨y, w⟩
    obtain ⟨f, f0, fk, fe⟩ := w.path
    have lt : ∀ t, t ≤ M.length → f t < M.length := fun t ht => by
      cases t with
      | zero => rw [f0]; exact hi
      | succ t => exact (ent_lt hm (fe t (by omega))).2
    obtain ⟨a, b, hab, hb, e⟩ := pigeon M.length f lt
    have w1 := path_wk fe a 0 (by omega)
    rw [Nat.zero_add, f0] at w1
    have w2 := path_wk fe (b - a) a (by omega)
    rw [show a + (b - a) = b by omega, ← e] at w2
    refine ⟨f a, lt a (by omega), ⟨a, w1⟩, fun p => ?_⟩
    have := (perN_ok hm (lt a (by omega))).1 _ w2
    rw [p] at this
    have := Nat.eq_zero_of_zero_dvd this
    omega
  · rintro ⟨j, hj, ⟨a, w⟩, p⟩
    rcases cyc_or M j with ⟨c, hc⟩ | hc
    · have wc := (cw_iff hm).1 hc.2.2.1
      have rep : ∀ m, Wk M (m * c) j j := fun m => by
        induction m with
        | zero => rw [Nat.zero_mul]; rfl
        | succ m ih => rw [Nat.succ_mul]; exact ih.add wc
      have hl : M.length ≤ M.length * c := Nat.le_mul_of_pos_right _ (by have := hc.1; omega)
      have := w.add (rep M.length)
      rw [show a + M.length * c = M.length + (a + M.length * c - M.length) by omega] at this
      obtain ⟨v, h1, _⟩ := Wk.split M.length this
      exact ⟨v, h1⟩
    · exact absurd (noCyc_per hm hj hc) p
theorem gw_iff (hm : isMat M = true) {i : Nat} (hi : i < M.length) : gwV M i = -1 ↔ ¬ ∃ y, Wk M M.length i y := by
  rw [long_iff hm hi]
  rcases gw_or M i with ⟨j, hb, _⟩ | hn
  · rw [gw_t hb]
    obtain ⟨hj, r, d⟩ := hb
    refine ⟨fun h => (by omega), fun h => absurd ⟨j, hj, r, (per_dg hm hj).2 ⟨j, hj, by omega, rfl⟩⟩ h⟩
  · rw [gw_f hn]
    constructor
    · rintro h ⟨j, hj, r, p⟩
      have := per_chv hm hj p
      have := chv_ge hm hi hj r
      omega
    · intro h
      have : ¬ 1 ≤ chv M i := fun x => h (chv_ex hm _ i hi rfl x)
      omega
theorem gw_bd (hm : isMat M = true) {i : Nat} (hi : i < M.length) : -2 ≤ gwV M i ∧ gwV M i < M.length := by
  have h8 := isMat_n hm
  rcases gw_or M i with ⟨j, hb, _⟩ | hn
  · rw [gw_t hb]; omega
  · rw [gw_f hn]
    have := chv_bd hm hi
    omega
theorem wk_step {j : Nat} : ∀ {t u}, u < M.length → cw M j t u = true → ∀ s, s < t → ∃ a b : Nat, ((u : Int) :: wlk M j t u)[s]? = some (a : Int) ∧ ((u : Int) :: wlk M j t u)[s + 1]? = some (b : Int) ∧ a < M.length ∧ b < M.length ∧ 0 < ent M a b
  | 0, u, hu, h, s, hs => by omega
  | t + 1, u, hu, h, s, hs => by
    obtain ⟨a1, a2, a3, _⟩ := nxW_ok h
    cases s with
    | zero => exact ⟨u, nxW M j t u, rfl, rfl, hu, a1, a2⟩
    | succ s =>
      obtain ⟨a, b, e1, e2, r⟩ := wk_step a1 a3 s (by omega)
      exact ⟨a, b, e1, e2, r⟩
theorem wk_last {j : Nat} : ∀ {t u}, cw M j t u = true → ((u : Int) :: wlk M j t u)[t]? = some (j : Int)
  | 0, u, h => by
    have : u = j := of_decide_eq_true h
    subst this; rfl
  | t + 1, u, h => wk_last (t := t) (nxW_ok h).2.2.1
end
end Go.Proofs.Ytjeemgaoonapgaa.Ev
set_option linter.unusedVariables false
set_option linter.unusedSimpArgs false
namespace Go.Proofs.Ytjeemgaoonapgaa.Ev
open Go Go.AEv
attribute [local simp] evFunc initS evOps_c evTrim_c evSkip_c evExit_c evRet_c evSeq_c evCond_c evBlock_c evDraw_c runOps_n runOps_c exec_n exec_g pure1_c act AOpd.ev T.get T.set T.put evBin evUn forceT_eq forceV_eq forceL_eq evRess evRes one keep runFP_n runFP_c app_none AV.flats AV.flat came_some List.getElem?_cons_zero List.getElem?_cons_succ beqT wrapI idxI tdivI tmodI decT decF ibT ibF inT inF evScope_c if_pos if_neg Cm_some thenW_n thenW_e thenW_r blkW_n blkW_e blkW_r goI kn putAt AV.cells fillA loadA takeA mk Eff.isAll Eff.isNone Eff.commutes Eff.spares okPair apart eqAgg fits LK.fits allEq aveq eqk mmA
section
variable {M : List (List Int)}
structure BR (H : Heap) (M : List (List Int)) (qb : Nat) (rs : List AV) : Prop where
  g : H.get qb = .cells 1 (seqB M).length rs
  l : rs.length = (seqB M).length
  r : ∀ (k : Nat) c, (seqB M)[k]? = some c → ∃ b : Nat, rs[k]? = some (AV.slice b 0 (cmL M c M.length).length (cmL M c M.length).length) ∧ H.get b = .cells 1 (cmL M c M.length).length (gs (cmL M c M.length))
theorem BR.kp {H H' : Heap} {qb : Nat} {rs : List AV} (t : BR H M qb rs) (k : Kp (fun _ => False) H H') : BR H' M qb rs :=
  ⟨k.at t.g (by simp) id, t.l, fun i c hc => by obtain ⟨b, e1, e2⟩ := t.r i c hc; exact ⟨b, e1, k.at e2 (by simp) id⟩⟩
end
def orB (g : Nat → Bool) : Nat → Bool
  | 0 => false
  | y + 1 => orB g y || g y
theorem orB_iff {g : Nat → Bool} : ∀ {n}, orB g n = true ↔ ∃ y, y < n ∧ g y = true
  | 0 => ⟨fun h => (by cases h), fun ⟨y, a, _⟩ => by omega⟩
  | n + 1 => by
    unfold orB
    rw [Bool.or_eq_true, orB_iff (n := n)]
    constructor
    · rintro (⟨y, a, b⟩ | b)
      · exact ⟨y, by omega, b⟩
      · exact ⟨n, by omega, b⟩
    · rintro ⟨y, a, b⟩
      by_cases e : y = n
      · subst e; exact .inr b
      · exact .inl ⟨y, by omega, b⟩
theorem sqM_one {n : Nat} {N : List (List Int)} (h : sqM n 1 N) (i j : Nat) : ent N i j ≤ 1 := by
  unfold ent
  by_cases hi : i < N.length
  · have e : N.getD i [] = N[i] := by rw [List.getD_eq_getElem?_getD, List.getElem?_eq_getElem hi]; rfl
    obtain ⟨_, h2⟩ := h N[i] (List.getElem_mem _)
    rw [e]
    by_cases hj : j < N[i].length
    · exact (allIn_at h2 hj).2
    · rw [List.getD_eq_getElem?_getD, List.getElem?_eq_none (by omega)]; decide
  · rw [List.getD_eq_getElem?_getD (l := N), List.getElem?_eq_none (by omega)]; simp
section
variable {M : List (List Int)}
theorem k15_some (J : CallF) {H : Heap} {n q i : Nat} {X : Nat → Int} {rs : List AV} {x0 x7 x9 x10 x11 x12 x17 : AV} (tt : TT H n X q rs) (h8 : n ≤ 8) (hi : i < n) :
    Tr tbl J c15_l0 (fun s h => h = H ∧ s.get [] = x0 ∧ s.get [false, false, false] = x7 ∧ s.get [true, false, false] = G i ∧ s.get [false, true, false] = x9 ∧ s.get [true, true, false] = x10 ∧ s.get [false, false, true] = x11 ∧ s.get [true, false, true] = x12 ∧ s.get [false, false, false, false] = .slice q 0 n n ∧ s.get [false, true, false, false] = x17 ∧ s.get [false, false, true, false] = .bool (orB (fun y => decide (0 < X (i * 8 + y))) 0) ∧ s.get [true, false, true, false] = G ((0 : Nat) : Int)) (.exit 0)
      (fun s h => h = H ∧ s.get [] = x0 ∧ s.get [false, false, false] = x7 ∧ s.get [true, false, false] = G i ∧ s.get [false, true, false] = x9 ∧ s.get [true, true, false] = x10 ∧ s.get [false, false, true] = x11 ∧ s.get [true, false, true] = x12 ∧ s.get [false, true, false, false] = x17 ∧ s.get [false, false, true, false] = .bool (orB (fun y => decide (0 < X (i * 8 + y))) n)) := by
  obtain ⟨b, er, gr⟩ := tt.r i hi
  have gq := tt.g
  have er' := getI er
  refine Tr.rounds (P := fun y => (fun s h => h = H ∧ s.get [] = x0 ∧ s.get [false, false, false] = x7 ∧ s.get [true, false, false] = G i ∧ s.get [false, true, false] = x9 ∧ s.get [true, true, false] = x10 ∧ s.get [false, false, true] = x11 ∧ s.get [true, false, true] = x12 ∧ s.get [false, false, false, false] = .slice q 0 n n ∧ s.get [false, true, false, false] = x17 ∧ s.get [false, false, true, false] = .bool (orB (fun y => decide (0 < X (i * 8 + y))) y) ∧ s.get [true, false, true, false] = G y)) (M := n) (fun y hy => ?_) ?_ (by simp) 0 (by omega)
  · refine Tr.w fun s1 H1 hp R kR => W.trim ?_
    obtain ⟨rfl, q⟩ := hp
    have ea := rwL_at X (i := i) hy
    have ea' := getI ea
    have es : orB (fun y => decide (0 < X (i * 8 + y))) (y + 1) = (orB (fun y => decide (0 < X (i * 8 + y))) y || decide (0 < X (i * 8 + y))) := rfl
    simp only [es] at kR
    clear tt
    generalize orB (fun y => decide (0 < X (i * 8 + y))) y = d at *
    generalize X (i * 8 + y) = z at *
    generalize gs (rwL X n i) = cr at *
    cases d
    · by_cases hz : 0 < z
      · refine W.assoc ?_
        refine W.seq (W.chunk ?_)
        simp (disch := first|omega|exact zE rfl|exact zO|exact zL rfl) [c15_o12, zG, q, gq, er, er']
        refine W.seq (W.chunk ?_)
        simp (disch := first|omega|exact zE rfl|exact zO|exact zL rfl) [zG, q]
        refine W.seq (W.block ?_)
        refine W.chunk ?_
        simp (disch := first|omega|exact zE rfl|exact zO|exact zL rfl) [c15_o13, zG, q, gq, er, er', gr, ea, ea']
        refine W.chunk ?_
        simp (disch := first|omega|exact zE rfl|exact zO|exact zL rfl) [c15_o14, zG, q]
        exact kR _ _ (by simp [T.get, q, hz])
      · refine W.assoc ?_
        refine W.seq (W.chunk ?_)
        simp (disch := first|omega|exact zE rfl|exact zO|exact zL rfl) [c15_o12, zG, q, gq, er, er']
        refine W.seq (W.chunk ?_)
        simp (disch := first|omega|exact zE rfl|exact zO|exact zL rfl) [zG, q]
        refine W.seq (W.block ?_)
        refine W.chunk ?_
        simp (disch := first|omega|exact zE rfl|exact zO|exact zL rfl) [c15_o13, zG, q, gq, er, er', gr, ea, ea']
        refine W.chunk ?_
        simp (disch := first|omega|exact zE rfl|exact zO|exact zL rfl) [c15_o14, zG, q]
        exact kR _ _ (by simp [T.get, q, hz])
    · refine W.assoc ?_
      refine W.seq (W.chunk ?_)
      simp (disch := first|omega|exact zE rfl|exact zO|exact zL rfl) [c15_o12, zG, q, gq, er, er']
      refine W.seq (W.chunk ?_)
      simp (disch := first|omega|exact zE rfl|exact zO|exact zL rfl) [zG, q]
      refine W.seq (W.block ?_)
      refine W.chunk ?_
      simp (disch := first|omega|exact zE rfl|exact zO|exact zL rfl) [c15_o13, zG, q, gq, er, er', gr, ea, ea']
      refine W.chunk ?_
      simp (disch := first|omega|exact zE rfl|exact zO|exact zL rfl) [c15_o14, zG, q]
      exact kR _ _ (by simp [T.get, q])
  · refine Tr.w fun s1 H1 hp R kR => W.trim ?_
    obtain ⟨rfl, q⟩ := hp
    clear tt
    generalize orB (fun y => decide (0 < X (i * 8 + y))) n = d at *
    refine W.assoc ?_
    refine W.seq (W.chunk ?_)
    simp (disch := first|omega|exact zE rfl|exact zO|exact zL rfl) [c15_o12, zG, q, gq, er, er']
    refine W.seq (W.chunk ?_)
    simp (disch := first|omega|exact zE rfl|exact zO|exact zL rfl) [zG, q]
    exact kR _ _ (by simp [T.get, q])
theorem k15_walk (J : CallF) (hm : isMat M = true) {H : Heap} {b v qw k : Nat} {cs cw : List AV} (mx : MX H M b v cs) (gw : H.get qw = .cells 1 (k + 1) cw) (hk : k ≤ 19) (hw : ∀ s, s < k → ∃ u w : Nat, cw[s]? = some (G u) ∧ cw[s + 1]? = some (G w) ∧ u < M.length ∧ w < M.length ∧ 0 < ent M u w) :
    Tr tbl J c15_l1 (fun s h => h = H ∧ s.get [] = G M.length ∧ s.get [false, false, false] = .slice b 0 M.length v ∧ s.get [true, true, false] = G k ∧ s.get [false, false, true] = .slice qw 0 (k + 1) (k + 1) ∧ s.get [false, true, true, false] = G ((0 : Nat) : Int)) (.exit 2) (fun s h => h = H) := by
  have h8 := isMat_n hm
  have gb := mx.g
  refine Tr.rounds (P := fun z => (fun s h => h = H ∧ s.get [] = G M.length ∧ s.get [false, false, false] = .slice b 0 M.length v ∧ s.get [true, true, false] = G k ∧ s.get [false, false, true] = .slice qw 0 (k + 1) (k + 1) ∧ s.get [false, true, true, false] = G z)) (M := k) (fun z hz => ?_) ?_ (by simp) 0 (by omega)
  · refine Tr.w fun s1 H1 hp R kR => W.trim ?_
    obtain ⟨rfl, q⟩ := hp
    obtain ⟨u, w, e1, e2, hu, hw', e⟩ := hw z hz
    obtain ⟨rb, rv, er, gr⟩ := mx.r u hu
    have ea := row_at hm hu hw'
    have e1' := getI e1
    have e2' := getI e2
    have er' := getI er
    have ea' := getI ea
    clear mx hw
    generalize ent M u w = en at *
    generalize gs (M.getD u []) = cr at *
    clear hm
    generalize M.length = n at *
    refine W.assoc ?_
    refine W.seq (W.chunk ?_)
    simp (disch := first|omega|exact zE rfl|exact zO|exact zL rfl) [c15_o22, zG, q]
    refine W.seq (W.chunk ?_)
    simp (disch := first|omega|exact zE rfl|exact zO|exact zL rfl) [zG, q]
    refine W.seq (W.block ?_)
    refine W.seq (W.chunk ?_)
    simp (disch := first|omega|exact zE rfl|exact zO|exact zL rfl) [c15_o23, zG, q, gw, e1, e1', e2, e2', gb, er, er', gr, ea, ea', -evDraw_c, evDraw_0]
    refine W.chunk ?_
    simp (disch := first|omega|exact zE rfl|exact zO|exact zL rfl) [c15_o24, zG, q]
    refine W.chunk ?_
    simp (disch := first|omega|exact zE rfl|exact zO|exact zL rfl) [c15_o25, zG, q]
    exact kR _ _ (by simp [T.get, q])
  · refine Tr.w fun s1 H1 hp R kR => W.trim ?_
    obtain ⟨rfl, q⟩ := hp
    clear mx hw hm
    generalize M.length = n at *
    refine W.assoc ?_
    refine W.seq (W.chunk ?_)
    simp (disch := first|omega|exact zE rfl|exact zO|exact zL rfl) [c15_o22, zG, q]
    refine W.seq (W.chunk ?_)
    simp (disch := first|omega|exact zE rfl|exact zO|exact zL rfl) [zG, q]
    exact kR _ _ rfl
end
structure KnX (J : CallF) : Prop where
  k23 : ∀ h, J 23 [] h = some (.bool true, [], false)
  k27 : K27 J
  k28 : K28 J
  k35 : K35 J
  k39 : K39 J
  k43 : K43 J
theorem counted_law (J : CallF) (K : KnX J) (hJ : ∀ a h, J 15 a h = none) (h : Heap) (a c d e : Int) {m : AV} {M : List (List Int)} (hm : MR h m M) : CallsTo tbl J 15 [G a, m, .agg [G c, G d, G e]] h (.bool true, [], false) := by
  refine Tr.fnv (cf := c15) (e := .ret) (s := T.set (T.set (T.set .leaf [] (G a)) [false] m) [true] (.agg [G c, G d, G e])) (by decide) rfl (hJ _ _) rfl rfl rfl (by simp) ?_
  refine Tr.w fun s1 H1 hp R kR => ?_
  obtain ⟨rfl, rfl⟩ := hp
  have q : True := trivial
  have fin : ∀ s h', s.get [true, true] = .bool true → R .ret s h' := fun s h' a => kR _ _ ⟨[.bool true], by simp [c15, evRess, evRes, a], rfl⟩
  clear kR
  have b1 := mdZ_bd a (show (0 : Int) < 8 by decide)
  have k1 := fun h => K.k27 a 8 h (by decide) (by decide)
  obtain ⟨n, hn⟩ : ∃ n : Nat, mdZ a 8 = (n : Int) := ⟨(mdZ a 8).toNat, by omega⟩
  rw [hn] at b1 k1
  have ns : ((n + 1 : Nat) : Int) = 1 + (n : Int) := by omega
  have nsc : 1 + (n : Int) = (n : Int) + 1 := by omega
  have b2 := mdZ_bd c (show (0 : Int) < 1 + (n : Int) by omega)
  have k2 := fun h => K.k27 c (1 + (n : Int)) h (by omega) (by omega)
  have b3 := mdZ_bd d (show (0 : Int) < 1 + (n : Int) by omega)
  have k3 := fun h => K.k27 d (1 + (n : Int)) h (by omega) (by omega)
  have b4 := mdZ_bd e (show (0 : Int) < 20 by decide)
  have k4 := fun h => K.k27 e 20 h (by decide) (by decide)
  obtain ⟨i, hi⟩ : ∃ i : Nat, mdZ c (1 + (n : Int)) = (i : Int) := ⟨(mdZ c (1 + (n : Int))).toNat, by omega⟩
  obtain ⟨j, hj⟩ : ∃ i : Nat, mdZ d (1 + (n : Int)) = (i : Int) := ⟨(mdZ d (1 + (n : Int))).toNat, by omega⟩
  obtain ⟨k, hk⟩ : ∃ i : Nat, mdZ e 20 = (i : Int) := ⟨(mdZ e 20).toNat, by omega⟩
  rw [hi] at b2 k2
  rw [hj] at b3 k3
  rw [hk] at b4 k4
  have hm0 : MR ((frameOf h).plus [.cells 0 3 [G c, G d, G e]]) m M := MR.kp (hm.lo []) (Kp.plus _ _)
  obtain ⟨x, own, N, k28, tg, hlN, hq⟩ := K.k28 _ m M (n + 1) 1 hm0 (by omega) (by decide)
  have hN : isMat N = true := sqM_mat hq hlN (by omega) (by decide)
  have h1 := sqM_one hq
  have f3 : (((frameOf h).plus [.cells 0 3 [G c, G d, G e]]).plus own).get (frameOf h).size = .cells 0 3 [G c, G d, G e] := plus_keep _ (plus_at0 _ _ _ _ rfl) (by simp)
  have hx := tg.mr
  clear tg hm0
  rw [ns] at k28
  generalize hH : ((frameOf h).plus [.cells 0 3 [G c, G d, G e]]).plus own = Ha at *
  have k23 := K.k23
  have hiN : i < N.length := by omega
  have hjN : j < N.length := by omega
  have inl : inL ⟨N, x, i⟩ := ⟨hN, by simp only; omega, by simp only; omega⟩
  have wk : wOk N i j k := ⟨hN, by omega, by omega, by omega⟩
  obtain ⟨v1, own1, k35, _, p0, p1⟩ := K.k35 Ha ⟨N, x, i, j, k⟩ hx
  have r0 := p0 wk
  have r1 := p1 wk
  clear p0 p1
  simp only [Int.toNat_natCast] at k35 r0 r1
  have kpa : Kp (fun _ => False) Ha (Ha.plus own1) := Kp.plus _ _
  have hxb := hx.kp kpa
  generalize hHb : Ha.plus own1 = Hb at *
  obtain ⟨v2, own2, k43a, _, _, p2⟩ := K.k43 Hb ⟨N, x, k⟩ hxb
  obtain ⟨w2, rfl, tb2⟩ := p2 ⟨hN, by simp only; omega, by simp only; omega⟩ (by simpa using okP_one hN h1 (by omega))
  simp only [Int.toNat_natCast] at k43a tb2
  have kpb : Kp (fun _ => False) Hb (Hb.plus own2) := Kp.plus _ _
  have hxc := hxb.kp kpb
  generalize hHc : Hb.plus own2 = Hc at *
  obtain ⟨v3, own3, k43b, _, _, p3⟩ := K.k43 Hc ⟨N, x, ((n + 1 : Nat) : Int)⟩ hxc
  obtain ⟨w3, rfl, tb3⟩ := p3 ⟨hN, by simp only; omega, by simp only; omega⟩ (by simp only [Int.toNat_natCast]; exact okP_one hN h1 (by omega))
  simp only [Int.toNat_natCast] at k43b tb3
  rw [ns] at k43b
  have kpc : Kp (fun _ => False) Hc (Hc.plus own3) := Kp.plus _ _
  have hxd := hxc.kp kpc
  generalize hHd : Hc.plus own3 = Hd at *
  obtain ⟨v4, own4, k39, rfl, _, p4⟩ := K.k39 Hd ⟨N, x, i⟩ hxd
  simp only [Int.toNat_natCast] at k39 p4
  obtain rfl := p4 inl
  obtain ⟨qa, ra, rfl, ta⟩ := tb2.tt hN
  obtain ⟨qb, rb, rfl, tt⟩ := tb3.tt hN
  have ta := ta.kp kpc
  have h8 := isMat_n hN
  obtain ⟨b, v, cs, rfl, mx⟩ := hxd.mx hN
  have pp := pwX_pos hN hiN (k := k) hjN
  have gi := gw_iff hN hiN
  have gbd := gw_bd hN hiN
  have so : orB (fun y => decide (0 < pwX N (n + 1) (i * 8 + y))) N.length = true ↔ ∃ y, Wk N N.length i y := by
    rw [orB_iff]
    constructor
    · rintro ⟨y, hy, e⟩
      have := (pwX_pos hN hiN hy).1 (of_decide_eq_true e)
      rw [hlN]; exact ⟨y, this⟩
    · rintro ⟨y, w⟩
      rw [hlN] at w
      have hy := w.lt' hN hiN
      exact ⟨y, hy, decide_eq_true ((pwX_pos hN hiN hy).2 w)⟩
  have gi := gi.trans (not_congr so.symm)
  have l0 := fun (x11 x12 : AV) => k15_some (J := J) (x11 := x11) (x12 := x12) (x0 := G (1 + (n : Int))) (x7 := .slice b 0 N.length v) (x9 := G j) (x10 := G k) (x17 := G (gwV N i)) tt h8.2 hiN
  simp only [show orB (fun y => decide (0 < pwX N (n + 1) (i * 8 + y))) 0 = false from rfl] at l0
  obtain ⟨ba, ea, gra⟩ := ta.r i hiN
  have gqa := ta.g
  have gqb := tt.g
  have eij := rwL_at (pwX N k) (i := i) hjN
  have ea' := getI ea
  have eij' := getI eij
  have k43a : J 43 [.slice b 0 N.length v, G k] Hb = some (.tup [.slice qa 0 N.length N.length, G 0], own2, false) := k43a
  have k43b : J 43 [.slice b 0 N.length v, G (1 + (n : Int))] Hc = some (.tup [.slice qb 0 N.length N.length, G 0], own3, false) := k43b
  have k39 : J 39 [.slice b 0 N.length v, G i] Hd = some (.tup [G (gwV N i), G 0], [], false) := k39
  have k28 : J 28 [m, G (1 + (n : Int)), G 1] _ = some (.slice b 0 N.length v, own, false) := k28
  have hnl : (N.length : Int) = 1 + (n : Int) := by omega
  cases hcw : cw N j k i
  · obtain ⟨rfl, rfl⟩ := r0 hcw
    have np : ¬ 0 < pwX N k (i * 8 + j) := fun x => by
      have := (cw_iff hN).2 (pp.1 x)
      rw [hcw] at this; cases this
    have e0 : Ha = Hb := by rw [← hHb]; simp [Heap.plus]
    subst e0
    clear r0 r1 p2 p3 p4 pp so tb2 tb3 ta tt mx hx hxb hxc hxd inl wk gqb kpa kpb kpc hHb
    generalize pwX N k (i * 8 + j) = pz at *
    generalize orB (fun y => decide (0 < pwX N (n + 1) (i * 8 + y))) N.length = sb at *
    generalize gwV N i = g at *
    generalize gs (rwL (pwX N k) N.length i) = cr at *
    cases sb
    all_goals
      simp only [Bool.false_eq_true, not_false_eq_true, iff_true, not_true_eq_false, iff_false] at gi
      refine W.seq (W.chunk ?_)
      simp (disch := first|omega|exact zE rfl|exact zO|exact zL rfl) [c15_o0, zG, q]
      refine W.seq (W.chunk ?_)
      simp (disch := first|omega|exact zE rfl|exact zO|exact zL rfl) [c15_o1, zG, q, k1]
      refine W.seq (W.chunk ?_)
      simp (disch := first|omega|exact zE rfl|exact zO|exact zL rfl) [c15_o2, zG, q, k28, app_if, app_if', hH]
      refine W.seq (W.chunk ?_)
      simp (disch := first|omega|exact zE rfl|exact zO|exact zL rfl) [c15_o3, zG, q, f3, k2, k3, k4, -evDraw_c, evDraw_0]
      refine W.seq (W.chunk ?_)
      simp (disch := first|omega|exact zE rfl|exact zO|exact zL rfl) [c15_o4, zG, q, k35]
      refine W.seq (W.chunk ?_)
      simp (disch := first|omega|exact zE rfl|exact zO|exact zL rfl) [c15_o5, zG, q, k43a, app_if, app_if', hHc]
      refine W.seq (W.chunk ?_)
      simp (disch := first|omega|exact zE rfl|exact zO|exact zL rfl) [c15_o6, zG, q, k43b, app_if, app_if', hHd]
      refine W.seq (W.chunk ?_)
      simp (disch := first|omega|exact zE rfl|exact zO|exact zL rfl) [c15_o7, zG, q, k39]
      refine W.assoc ?_
      refine W.seq (W.chunk ?_)
      simp (disch := first|omega|exact zE rfl|exact zO|exact zL rfl) [c15_o8, zG, q, gqa, ea, ea', gra, eij, eij', eqk]
      refine W.seq (W.chunk ?_)
      simp (disch := first|omega|exact zE rfl|exact zO|exact zL rfl) [c15_o9, zG, q]
      refine W.seq (W.chunk ?_)
      simp (disch := first|omega|exact zE rfl|exact zO|exact zL rfl) [c15_o10, zG, q]
      refine W.assoc ?_
      refine W.seq (W.chunk ?_)
      simp (disch := first|omega|exact zE rfl|exact zO|exact zL rfl) [c15_o11, zG, q]
      refine W.seq (W.block ?_)
      refine W.use (l0 .nils (G 6)) (by simp (disch := first|omega|exact zE rfl|exact zO|exact zL rfl) [zG, q]) fun s1 H1 hp => ?_
      obtain ⟨rfl, q⟩ := hp
      try simp only [zW, if_true]
      refine W.assoc ?_
      refine W.seq (W.chunk ?_)
      simp (disch := first|omega|exact zE rfl|exact zO|exact zL rfl) [c15_o15, zG, q, eqk, gi]
      refine W.seq (W.chunk ?_)
      simp (disch := first|omega|exact zE rfl|exact zO|exact zL rfl) [c15_o16, zG, q]
      refine W.assoc ?_
      refine W.seq (W.chunk ?_)
      simp (disch := first|omega|exact zE rfl|exact zO|exact zL rfl) [c15_o17, zG, q]
      refine W.seq (W.chunk ?_)
      simp (disch := first|omega|exact zE rfl|exact zO|exact zL rfl) [c15_o18, zG, q, k23]
      exact fin _ _ (by simp [T.get])
  · obtain ⟨w, rfl, ng⟩ := r1 hcw
    have np : 0 < pwX N k (i * 8 + j) := pp.2 ((cw_iff hN).1 hcw)
    have lw : (gs (wkL N i j k)).length = k + 1 := by simp [wkL, wlk_ln]
    obtain ⟨qw, rfl, gw⟩ := ng.l.sl (by intro e; rw [e] at lw; simp at lw)
    rw [lw] at k35 gw
    have gw := (kpb.trans kpc).at gw (by simp) id
    have w0 : (gs (wkL N i j k))[0]? = some (G i) := rfl
    have wl : (gs (wkL N i j k))[k]? = some (G j) := by show (gs ((i : Int) :: wlk N j k i))[k]? = _; simp only [gs, List.getElem?_map, wk_last hcw, Option.map_some]
    have ws : ∀ s, s < k → ∃ u w : Nat, (gs (wkL N i j k))[s]? = some (G u) ∧ (gs (wkL N i j k))[s + 1]? = some (G w) ∧ u < N.length ∧ w < N.length ∧ 0 < ent N u w := fun s hs => by
      obtain ⟨a, b, e1, e2, r⟩ := wk_step hiN hcw s hs
      exact ⟨a, b, by simp only [wkL, gs, List.getElem?_map, e1, Option.map_some], by simp only [wkL, gs, List.getElem?_map, e2, Option.map_some], r⟩
    have l1 := k15_walk J hN mx gw (by omega) ws
    have w0' := getI w0
    have wl' := getI wl
    have nk : ((k + 1 : Nat) : Int) = (k : Int) + 1 := by omega
    clear r0 r1 p2 p3 p4 pp so tb2 tb3 ta tt mx hx hxb hxc hxd inl wk gqb kpa kpb kpc ng hcw ws
    generalize pwX N k (i * 8 + j) = pz at *
    generalize orB (fun y => decide (0 < pwX N (n + 1) (i * 8 + y))) N.length = sb at *
    generalize gwV N i = g at *
    generalize gs (rwL (pwX N k) N.length i) = cr at *
    generalize gs (wkL N i j k) = cw at *
    cases sb
    all_goals
      simp only [Bool.false_eq_true, not_false_eq_true, iff_true, not_true_eq_false, iff_false] at gi
      refine W.seq (W.chunk ?_)
      simp (disch := first|omega|exact zE rfl|exact zO|exact zL rfl) [c15_o0, zG, q]
      refine W.seq (W.chunk ?_)
      simp (disch := first|omega|exact zE rfl|exact zO|exact zL rfl) [c15_o1, zG, q, k1]
      refine W.seq (W.chunk ?_)
      simp (disch := first|omega|exact zE rfl|exact zO|exact zL rfl) [c15_o2, zG, q, k28, app_if, app_if', hH]
      refine W.seq (W.chunk ?_)
      simp (disch := first|omega|exact zE rfl|exact zO|exact zL rfl) [c15_o3, zG, q, f3, k2, k3, k4, -evDraw_c, evDraw_0]
      refine W.seq (W.chunk ?_)
      simp (disch := first|omega|exact zE rfl|exact zO|exact zL rfl) [c15_o4, zG, q, k35, app_if, app_if', hHb]
      refine W.seq (W.chunk ?_)
      simp (disch := first|omega|exact zE rfl|exact zO|exact zL rfl) [c15_o5, zG, q, k43a, app_if, app_if', hHc]
      refine W.seq (W.chunk ?_)
      simp (disch := first|omega|exact zE rfl|exact zO|exact zL rfl) [c15_o6, zG, q, k43b, app_if, app_if', hHd]
      refine W.seq (W.chunk ?_)
      simp (disch := first|omega|exact zE rfl|exact zO|exact zL rfl) [c15_o7, zG, q, k39]
      refine W.assoc ?_
      refine W.seq (W.chunk ?_)
      simp (disch := first|omega|exact zE rfl|exact zO|exact zL rfl) [c15_o8, zG, q, gqa, ea, ea', gra, eij, eij', eqk]
      refine W.seq (W.chunk ?_)
      simp (disch := first|omega|exact zE rfl|exact zO|exact zL rfl) [c15_o9, zG, q]
      refine W.seq (W.chunk ?_)
      simp (disch := first|omega|exact zE rfl|exact zO|exact zL rfl) [c15_o10, zG, q]
      refine W.assoc ?_
      refine W.seq (W.chunk ?_)
      simp (disch := first|omega|exact zE rfl|exact zO|exact zL rfl) [c15_o11, zG, q]
      refine W.seq (W.block ?_)
      refine W.use (l0 (.slice qw 0 (k + 1) (k + 1)) (G 0)) (by simp (disch := first|omega|exact zE rfl|exact zO|exact zL rfl) [zG, q]) fun s1 H1 hp => ?_
      obtain ⟨rfl, q⟩ := hp
      try simp only [zW, if_true]
      refine W.assoc ?_
      refine W.seq (W.chunk ?_)
      simp (disch := first|omega|exact zE rfl|exact zO|exact zL rfl) [c15_o15, zG, q, eqk, gi]
      refine W.seq (W.chunk ?_)
      simp (disch := first|omega|exact zE rfl|exact zO|exact zL rfl) [c15_o16, zG, q]
      refine W.assoc ?_
      refine W.seq (W.chunk ?_)
      simp (disch := first|omega|exact zE rfl|exact zO|exact zL rfl) [c15_o17, zG, q]
      refine W.seq (W.chunk ?_)
      simp (disch := first|omega|exact zE rfl|exact zO|exact zL rfl) [c15_o18, zG, q]
      refine W.assoc ?_
      refine W.seq (W.chunk ?_)
      simp (disch := first|omega|exact zE rfl|exact zO|exact zL rfl) [c15_o19, zG, q, gw, w0, w0', wl, wl', lw, nk]
      refine W.seq (W.chunk ?_)
      simp (disch := first|omega|exact zE rfl|exact zO|exact zL rfl) [c15_o20, zG, q]
      refine W.assoc ?_
      refine W.seq (W.chunk ?_)
      simp (disch := first|omega|exact zE rfl|exact zO|exact zL rfl) [c15_o21, zG, q]
      refine W.seq (W.block ?_)
      refine W.use (l1) (by simp (disch := first|omega|exact zE rfl|exact zO|exact zL rfl) [zG, q, hnl]) fun s1 H1 hp => ?_
      obtain rfl := hp
      try simp only [zW, if_true]
      refine W.seq (W.chunk ?_)
      simp (disch := first|omega|exact zE rfl|exact zO|exact zL rfl) [c15_o26, zG, q, k23]
      refine W.ret ?_
      try simp only [zW, if_true]
      exact fin _ _ (by simp [T.get])
theorem knX : KnX T38 where
  k23 := fun h => by
    simp (disch := decide) only [T38, T37, T36, T35, T34, T33, T32, T31, T30, T29, T28, T27, T26, T25, T24, T23, T22, T21, T20, T19, T18, T17, T16, T15, T14, T13, T12, T11, T10, T9, T8, T7, T6, T5, T4, T3, T2, T1, addI_ne, addX_ne, addV_ne, addK_ne]
    exact k23_r h
  k27 := fun x n h a b => by
    simp (disch := decide) only [T38, T37, T36, T35, T34, T33, T32, T31, T30, T29, T28, T27, T26, T25, T24, T23, T22, T21, T20, T19, T18, T17, T16, T15, T14, T13, T12, T11, T10, T9, T8, T7, T6, T5, T4, T3, addX_ne, addK_ne]
    exact k27_2 x n h a b
  k28 := fun h y M n most a b c => by
    simp (disch := decide) only [T38, T37, T36, T35, T34, T33, T32, T31, T30, T29, T28, T27, T26, T25, T24, T23, T22, T21, T20, T19, T18, T17, T16, T15, T14, T13, T12, T11, T10, T9, T8, T7, T6, T5, T4, addX_ne, addK_ne]
    exact k28 h y M n most a b c
  k35 := fun h a ha => by
    simp (disch := decide) only [T38, T37, T36, T35, T34, T33, T32, T31, T30, T29, T28, T27, T26, T25, T24, T23, T22, T21, T20, T19, T18, T17, T16, T15, T14, T13, T12, T11, T10, addK_ne]
    exact k35 h a ha
  k39 := k39
  k43 := fun h a ha => by
    simp (disch := decide) only [T38, T37, T36, T35, T34, T33, T32, T31, T30, T29, T28, T27, T26, T25, T24, T23, T22, T21, T20, T19, T18, T17, addK_ne]
    exact k43 h a ha
theorem counted_ok (h : Heap) (a c d e : Int) {m : AV} {M : List (List Int)} (hm : MR h m M) : CallsTo tbl T38 15 [G a, m, .agg [G c, G d, G e]] h (.bool true, [], false) := counted_law T38 knX (fun _ _ => by simp (disch := decide) only [T38, T37, T36, T35, T34, T33, T32, T31, T30, T29, T28, T27, T26, T25, T24, T23, T22, T21, T20, T19, T18, T17, T16, T15, T14, T13, T12, T11, T10, T9, T8, T7, T6, T5, T4, T3, T2, T1, R21, R20, R19, R18, R17, R16, R15, R14, R13, R12, R11, R10, R9, R8, R7, R6, R5, R4, R3, R2, R1, addI_ne, addX_ne, addV_ne, addK_ne]; rfl) h a c d e hm
end Go.Proofs.Ytjeemgaoonapgaa.Ev
set_option linter.unusedVariables false
set_option linter.unusedSimpArgs false
namespace Go.AEv
open Go.ChangeShapes Go.WideShapes Go.Proofs.Ytjeemgaoonapgaa.Ev
theorem MR.ext {h h' : Heap} (e : Ext h h') {y : AV} {M : List (List Int)} (m : MR h y M) : MR h' y M := by
  rcases m with m | ⟨b, v, cs, rfl, g, hl, hr⟩
  · exact .inl m
  · refine .inr ⟨b, v, cs, rfl, e _ _ g (by simp), hl, fun i r q => ?_⟩
    obtain ⟨l, h1, h2⟩ := hr i r q
    exact ⟨l, h1, LR.ext e h2⟩
theorem rows_lo {CK : CKT} {w : World} {H : Type} {enc : TypeId × Value → H} {P : Program} {e i : TypeId} (he : P.underlying e = some (.slice i)) (hi : P.underlying i = some (.int .i64)) (hc : P.cellsOf i = 1) :
    ∀ (vs : List Value) {φ : Nat → Emb} {h : Heap} (ho : h.own = []) (hr : HR CK w [] φ h w), (∀ u ∈ vs, ∃ fuel z, DataW.trod enc P w 0 (fun _ => true) true fuel e [u] = some z) →
    ∃ φ' h', ∃ (rs : List AV) (ls : List (List Int)), h'.own = [] ∧ HR CK w [] φ' h' w ∧ Stp φ h φ' h' ∧ Ext h h' ∧ rs.length = vs.length ∧ ls.length = vs.length ∧ ∀ (j : Nat) u r, vs[j]? = some u → rs[j]? = some r → VR φ' h' r u ∧ Value.oneCell' u = true ∧ ∃ l, ls[j]? = some l ∧ LR h' r l
  | [], φ, h, ho, hr, _ => ⟨φ, h, [], [], ho, hr, Stp.refl φ h, Ext.refl h, rfl, rfl, fun j u r q => by simp at q⟩
  | u :: us, φ, h, ho, hr, ht => by
    obtain ⟨fuel, z, hf⟩ := ht u (by simp)
    obtain ⟨φ1, h1, x, l, o1, r1, s1, e1, v1, p1, c1⟩ := ints_lo0 ho hr he hi hc hf
    obtain ⟨φ2, h2, rs, ls, o2, r2, s2, e2, l1, l2, q⟩ := rows_lo he hi hc us o1 r1 (fun u' hu => ht u' (by simp [hu]))
    refine ⟨φ2, h2, x :: rs, l :: ls, o2, r2, s1.trans s2, e1.trans e2, by simp [l1], by simp [l2], fun j u' r hu hr' => ?_⟩
    cases j with
    | zero =>
      simp only [List.getElem?_cons_zero, Option.some.injEq] at hu hr'
      subst hu hr'
      exact ⟨VR.step s2 _ _ v1, c1, l, rfl, p1.ext e2⟩
    | succ j =>
      simp only [List.getElem?_cons_succ] at hu hr' ⊢
      exact q j u' r hu hr'
theorem mat_lo {CK : CKT} {φ : Nat → Emb} {h : Heap} {w : World} (ho : h.own = []) (hr : HR CK w [] φ h w) {H : Type} {enc : TypeId × Value → H} {P : Program} {t e i : TypeId} {v : Value} {d : DataW H} {p : List MemPlace}
    (ht : P.underlying t = some (.slice e)) (he : P.underlying e = some (.slice i)) (hi : P.underlying i = some (.int .i64)) (hce : P.cellsOf e = 1) (hci : P.cellsOf i = 1) (hvs : ∃ a len cap, v = .slice a len cap) (k : DataW.Trod enc P w 0 (fun _ => true) true t v d p) :
    ∃ φ' h' x M, h'.own = [] ∧ HR CK w [] φ' h' w ∧ Stp φ h φ' h' ∧ Ext h h' ∧ VR φ' h' x v ∧ MR h' x M := by
  obtain ⟨va, vl, vc, rfl⟩ := hvs
  obtain ⟨fuel, hf⟩ := k
  rcases DataW.trod_slice ht hf with ⟨hcs, _⟩ | ⟨a, len, cap, elems, rest, n, _, hcs, _, _, hl, hm, hlen, hel, hsp, _⟩
  · have hcs' : Value.slice va vl vc = .slice none 0 0 := (List.cons.inj hcs).1
    rw [hcs']
    exact ⟨φ, h, .nils, [], ho, hr, Stp.refl φ h, Ext.refl h, by simp [VR], .inl ⟨.inl rfl, rfl⟩⟩
  · have hcs' : Value.slice va vl vc = .slice (some a) len cap := (List.cons.inj hcs).1
    rw [hcs']
    by_cases h0 : len = 0
    · subst h0
      exact ⟨φ, h, .slice0, [], ho, hr, Stp.refl φ h, Ext.refl h, by simp [VR], .inl ⟨.inr rfl, rfl⟩⟩
    · obtain ⟨hrl, hre⟩ := hsp rfl
      have each : ∀ j, j < cap → ∃ u, w.cell? (a.add j) = some u ∧ ∃ z, DataW.trod enc P w 0 (fun _ => true) true n e [u] = some z := fun j hj => by
        have hb' : ∃ y, (w.cells? 0 (a.add (j * P.cellsOf e)) (P.cellsOf e)).bind (DataW.trod enc P w 0 (fun _ => true) true n e) = some y := by
          by_cases hjl : j < len
          · rw [hel j hjl, List.getElem?_eq_getElem (by omega)]; exact ⟨_, rfl⟩
          · have := hre (j - len) (by omega)
            rw [show len + (j - len) = j by omega] at this
            rw [this, List.getElem?_eq_getElem (by omega)]; exact ⟨_, rfl⟩
        obtain ⟨y, hy⟩ := hb'
        rw [hce, Nat.mul_one, Option.bind_eq_some_iff] at hy
        obtain ⟨cs', h1, h2⟩ := hy
        have hl1 := (World.cells?_some h1).2.1
        obtain ⟨u, rfl⟩ : ∃ u, cs' = [u] := by
          cases cs' with
          | nil => simp at hl1
          | cons u r => cases r with
            | nil => exact ⟨u, rfl⟩
            | cons u' r => simp at hl1
        exact ⟨u, cell_of_cells?_one h1, y, h2⟩
      obtain ⟨f, hfe⟩ : ∃ f : Nat → Value, ∀ j, j < cap → w.cell? (a.add j) = some (f j) ∧ ∃ z, DataW.trod enc P w 0 (fun _ => true) true n e [f j] = some z :=
        ⟨fun j => if hj : j < cap then Classical.choose (each j hj) else .nilFunc, fun j hj => by
          simp only [dif_pos hj]
          exact Classical.choose_spec (each j hj)⟩
      obtain ⟨b, off, spot⟩ := a
      have hspot : spot = none := by simpa [Addr.add] using World.cell?_spot (hfe 0 (by omega)).1
      subst hspot
      have hcell : ∀ j, j < cap → w.cell? ⟨b, off + j, none⟩ = some (f j) := fun j hj => by rw [← Go.WideShapes.add_plain]; exact (hfe j hj).1
      obtain ⟨c, ty, fr, hb, hc0⟩ := cell_obj (hcell 0 (by omega))
      have hcj : ∀ j, j < cap → c[off + j]? = some (f j) := fun j hj => by
        obtain ⟨c', ty', fr', hb', hcj⟩ := cell_obj (hcell j hj)
        rw [hb] at hb'
        simp only [Option.some.injEq, Obj.cells.injEq] at hb'
        obtain ⟨rfl, _⟩ := hb'
        exact hcj
      have hsize : off + cap ≤ c.size := by
        have := (Array.getElem?_eq_some_iff.1 (hcj (cap - 1) (by omega))).1
        omega
      obtain ⟨φ1, h1, rs, ls, o1, r1, s1, e1, l1, l2, q⟩ := rows_lo he hi hci ((List.range len).map f) ho hr (fun u hu => by
        obtain ⟨j, hj, rfl⟩ := List.mem_map.1 hu
        obtain ⟨z, hz⟩ := (hfe j (by have := List.mem_range.1 hj; omega)).2
        exact ⟨n, z, hz⟩)
      simp only [List.length_map, List.length_range] at l1 l2
      have hat : ∀ j, j < len → ((List.range len).map f)[j]? = some (f j) := fun j hj => by simp [hj]
      refine ⟨AEv.upd φ1 h1.N ⟨b, off, cap⟩, h1.more (.cells 1 len rs), .slice h1.N 0 len len, ls, rfl, lo_add o1 r1 _ _ ?_, s1.trans (lo_stp o1 _ _), e1.trans (more_ext h1 o1 _), ?_, .inr ⟨h1.N, len, rs, by rw [l2], more_at _ _, by omega, fun j r hr' => ?_⟩⟩
      · refine ⟨c, ty, fr, hb, hsize, by show rs.length ≤ cap; omega, fun j x hx => ?_⟩
        have hj : j < len := by have := (List.getElem?_eq_some_iff.1 hx).1; omega
        obtain ⟨q1, q2, _⟩ := q j (f j) x (hat j hj) hx
        exact ⟨f j, hcj j (by omega), VR.step (lo_stp o1 _ _) _ _ q1, q2⟩
      · simp only [VR]
        exact ⟨_, cap, 1, len, _, rfl, hl, more_at _ _, Nat.le_refl _, fun _ => ⟨by simp [AEv.upd], fun _ _ => by simp [AEv.upd]⟩⟩
      · have hj : j < len := by have := (List.getElem?_eq_some_iff.1 hr').1; omega
        obtain ⟨_, _, l, q3, q4⟩ := q j (f j) r (hat j hj) hr'
        exact ⟨l, q3, q4.ext (more_ext h1 o1 _)⟩
end Go.AEv
namespace Go.AEv
open Go.ChangeShapes Go.WideShapes
section
variable {H : Type} {enc : TypeId × Value → H} {P : Program} {k e : TypeId} {q : IntKind} {W : World} {base : Nat} {sp : Nat → Bool} {held : Bool}
theorem okWide_three (A : Go.WideMaps.ArrKey P k e 3) {r : Reach} {b0 : Nat} {v : Value} (h : Value.okWide P W r b0 k v) : ∃ c0 c1 c2, v = .agg #[c0, c1, c2] := by
  simp only [Value.okWide, A.hu] at h
  obtain ⟨cs, h1, h2, _⟩ := h
  rw [A.size] at h2
  obtain ⟨l⟩ := cs
  match l, h2 with
  | [c0, c1, c2], _ => exact ⟨c0, c1, c2, h1⟩
theorem open_three (A : Go.WideMaps.ArrKey P k e 3) (he : P.underlying e = some (.int q)) {r : Reach} {b0 : Nat} {v : Value} {d : DataW H} {ps : List MemPlace} (hval : Value.okWide P W r b0 k v) (hd : DataW.Trod enc P W base sp held k v d ps) :
    ∃ a b c : Int, v = .agg #[.int q a, .int q b, .int q c] ∧ d = .agg [.lit (.int q a), .lit (.int q b), .lit (.int q c)] ∧ ps = [] ∧ (Lit.int q a).wf = true ∧ (Lit.int q b).wf = true ∧ (Lit.int q c).wf = true := by
  obtain ⟨c0, c1, c2, rfl⟩ := okWide_three A hval
  obtain ⟨fuel, hf⟩ := hd
  cases fuel with
  | zero => simp [DataW.trod] at hf
  | succ n =>
    rw [DataW.trod_step] at hf
    unfold DataW.trodStep at hf
    simp only [A.hu, Value.cells] at hf
    rw [if_pos (by rw [A.size]; rfl)] at hf
    simp only [Option.map_eq_some_iff] at hf
    obtain ⟨xs, hx, e1⟩ := hf
    rw [show List.range 3 = [0, 1, 2] from rfl, List.mapM_cons, List.mapM_cons, List.mapM_cons, List.mapM_nil] at hx
    simp only [bind, Option.bind_eq_some_iff, pure, Option.some.injEq, A.one] at hx
    obtain ⟨y0, h0, _, ⟨y1, h1, _, ⟨y2, h2, _, rfl, rfl⟩, rfl⟩, rfl⟩ := hx
    obtain ⟨a, ea, rfl, wa⟩ := DataW.trod_int he h0
    obtain ⟨b, eb, rfl, wb⟩ := DataW.trod_int he h1
    obtain ⟨c, ec, rfl, wc⟩ := DataW.trod_int he h2
    simp at ea eb ec
    subst ea; subst eb; subst ec
    simp only [Prod.mk.injEq] at e1
    exact ⟨a, b, c, rfl, by rw [← e1.1]; rfl, by rw [← e1.2]; rfl, wa, wb, wc⟩
theorem shut_three (A : Go.WideMaps.ArrKey P k e 3) (he : P.underlying e = some (.int q)) {a b c : Int} (wa : (Lit.int q a).wf = true) (wb : (Lit.int q b).wf = true) (wc : (Lit.int q c).wf = true) :
    DataW.Trod enc P W base sp held k (.agg #[.int q a, .int q b, .int q c]) (.agg [.lit (.int q a), .lit (.int q b), .lit (.int q c)]) [] :=
  ⟨2, by
    show DataW.trod enc P W base sp held (1 + 1) k [.int q a, .int q b, .int q c] = _
    rw [DataW.trod_step]
    unfold DataW.trodStep
    simp only [A.hu]
    rw [if_pos (by rw [A.size]; rfl), show List.range 3 = [0, 1, 2] from rfl, List.mapM_cons, List.mapM_cons, List.mapM_cons, List.mapM_nil]
    simp [A.one, DataW.trod, he, wa, wb, wc]⟩
end
end Go.AEv
