/-
  Of the functions that this law reaches, part 2: what they answer. No condition.
-/
import Derived.Test.YtljgfdamdcikgaaRP1
import Derived.Test.YtljgfdamdcikgaaRP0
import Derived.WideKeyPair
set_option linter.unusedVariables false
set_option linter.unusedSimpArgs false
namespace Go.Proofs.Ytljgfdamdcikgaa.Ev
open Go Go.AEv
attribute [local simp] evFunc initS evOps_c evTrim_c evSkip_c evExit_c evRet_c evSeq_c evCond_c evBlock_c evDraw_c runOps_n runOps_c exec_n exec_g pure1_c act AOpd.ev T.get T.set T.put evBin evUn forceT_eq forceV_eq forceL_eq evRess evRes one keep runFP_n runFP_c app_none AV.flats AV.flat came_some List.getElem?_cons_zero List.getElem?_cons_succ beqT wrapI idxI tdivI tmodI decT decF ibT ibF inT inF evScope_c if_pos if_neg Cm_some thenW_n thenW_e thenW_r blkW_n blkW_e blkW_r goI kn putAt AV.cells fillA loadA takeA mk Eff.isAll Eff.isNone Eff.commutes Eff.spares okPair apart eqAgg fits LK.fits allEq aveq eqk mmA
def mdZ (x n : Int) : Int := (x % 18446744073709551616) % n
theorem mdZ_bd (x : Int) {n : Int} (h : 0 < n) : 0 ≤ mdZ x n ∧ mdZ x n < n := ⟨Int.emod_nonneg _ (by omega), Int.emod_lt_of_pos _ h⟩
def spec19 : SpecV
  | [.int .i64 x, .int .i64 n] => if 0 < n ∧ n < 9223372036854775808 then some (G (mdZ x n)) else none
  | _ => none
theorem wrap_u64 (n : Int) : IntKind.u64.wrap n = n % 18446744073709551616 := by
  unfold IntKind.wrap IntKind.bits IntKind.signed
  simp
theorem c19_ok (J : CallF) (hJ : ∀ a h, J 19 a h = none) (x n : Int) (h1 : 0 < n) (h2 : n < 9223372036854775808) : CallsTo tbl J 19 [G x, G n] e0 (G (mdZ x n), [], false) := by
  unfold mdZ
  refine CallsTo.plain (cf := c19) (h' := frameOf e0) (by decide) rfl (hJ _ _) rfl rfl ?_
  have w : n % 18446744073709551616 = n := Int.emod_eq_of_lt (by omega) (by omega)
  have hz : ¬ n = 0 := by omega
  have hm : (x % 18446744073709551616).tmod n = (x % 18446744073709551616) % n := Int.tmod_eq_emod_of_nonneg (Int.emod_nonneg _ (by decide))
  have a1 := Int.emod_nonneg (x % 18446744073709551616) hz
  have a2 := Int.emod_lt_of_pos (x % 18446744073709551616) h1
  simp [c19, c19_o0, c19_o1, wrap_u64, w, hz, hm, wrapI ((x % 18446744073709551616) % n) (by omega) (by omega)]
noncomputable def T47 : CallF := addV T46 19 spec19
theorem t47 : Sound Go.Proofs.Try.prog T47 := Sound.addV follows ok t46 (by decide) (fun args v h => by
  unfold spec19 at h
  split at h
  · split at h
    · rename_i hn
      simp only [Option.some.injEq] at h; subst h
      exact c19_ok T46 (fun _ _ => by simp (disch := decide) only [T1, T2, T3, T4, T5, T6, T7, T8, T9, T10, T11, T12, T13, T14, T15, T16, T17, T18, T19, T20, T21, T22, T23, T24, T25, T26, T27, T28, T29, T30, T31, T32, T33, T34, T35, T36, T37, T38, T39, T40, T41, T42, T43, T44, T45, T46, addI_ne, addX_ne, addV_ne, addK_ne]; rfl) _ _ hn.1 hn.2
    · cases h
  · cases h)
abbrev K19 (J : CallF) : Prop := ∀ (x n : Int) (h : Heap), 0 < n → n < 9223372036854775808 → J 19 [G x, G n] h = some (G (mdZ x n), [], false)
theorem k19 : K19 T47 := fun x n h h1 h2 => by simp [T47, addV, spec19, h1, h2]
def btZ (a : Int) : Int := ((BitVec.ofInt 64 a &&& BitVec.ofInt 64 1).toNat : Int)
theorem btZ_bd (a : Int) : 0 ≤ btZ a ∧ btZ a ≤ 1 := by
  unfold btZ
  rw [BitVec.toNat_and]
  have e : (BitVec.ofInt 64 1).toNat = 1 := rfl
  rw [e, Nat.and_one_is_mod]
  omega
theorem c56_ok (J : CallF) (hJ : ∀ a h, J 56 a h = none) (h : Heap) {x : AV} {M : List (List Int)} (mr : MR h x M) {i k : Nat} (hi : i ≤ 1000) (hk : k ≤ 1000) : ∃ v own, CallsTo tbl J 56 [x, G i, G k] h (v, own, false) ∧ (∃ b : Int, v = G b ∧ 0 ≤ b ∧ b ≤ 1) ∧ own = [] := by
  refine Tr.fny (Good := fun v own => (∃ b : Int, v = G b ∧ 0 ≤ b ∧ b ≤ 1) ∧ own = []) (cf := c56) (e := .ret) (s := T.set (T.set (T.set .leaf [] x) [false] (G i)) [true] (G k)) (by decide) rfl (hJ _ _) rfl rfl (by simp) ?_
  refine Tr.post (Q := fun s h => ∃ b : Int, s.get [true, true] = G b ∧ 0 ≤ b ∧ b ≤ 1) (fun s h' q => by
    obtain ⟨b, e, q1, q2⟩ := q
    exact ⟨[G b], by simp [c56, evRess, evRes, e], ⟨b, rfl, q1, q2⟩, rfl⟩) ?_
  have mf : MR (frameOf h) x M := mr.lo []
  by_cases c : i < M.length
  · obtain ⟨b, v, cs, r, rfl, g, e, lr⟩ := mf.row c
    have e' := getI e
    have hcs : i < cs.length := (List.getElem?_eq_some_iff.1 e).1
    rcases lr.cases with ⟨rfl, _⟩ | ⟨rfl, _⟩ | ⟨rb, rv, rfl, gr⟩
    · clear mf mr
      generalize M.length = n at *
      refine Tr.w fun s1 H1 hp _ kR => ?_
      obtain ⟨rfl, rfl⟩ := hp
      have q : True := trivial
      refine W.seq (W.chunk ?_)
      simp (disch := first|omega|exact zE rfl|exact zO|exact zL rfl) [c56_o0, zG, q]
      refine W.assoc ?_
      refine W.seq (W.chunk ?_)
      simp (disch := first|omega|exact zE rfl|exact zO|exact zL rfl) [c56_o1, zG, q, g, e, e']
      refine W.seq (W.chunk ?_)
      simp (disch := first|omega|exact zE rfl|exact zO|exact zL rfl) [c56_o2, zG, q]
      refine W.seq (W.chunk ?_)
      simp (disch := first|omega|exact zE rfl|exact zO|exact zL rfl) [c56_o3, zG, q]
      refine W.ret ?_
      try simp only [zW, if_true]
      exact kR _ _ ⟨1, by simp [T.get], by omega, by omega⟩
    · clear mf mr
      generalize M.length = n at *
      refine Tr.w fun s1 H1 hp _ kR => ?_
      obtain ⟨rfl, rfl⟩ := hp
      have q : True := trivial
      refine W.seq (W.chunk ?_)
      simp (disch := first|omega|exact zE rfl|exact zO|exact zL rfl) [c56_o0, zG, q]
      refine W.assoc ?_
      refine W.seq (W.chunk ?_)
      simp (disch := first|omega|exact zE rfl|exact zO|exact zL rfl) [c56_o1, zG, q, g, e, e']
      refine W.seq (W.chunk ?_)
      simp (disch := first|omega|exact zE rfl|exact zO|exact zL rfl) [c56_o2, zG, q]
      refine W.seq (W.chunk ?_)
      simp (disch := first|omega|exact zE rfl|exact zO|exact zL rfl) [c56_o3, zG, q]
      refine W.ret ?_
      try simp only [zW, if_true]
      exact kR _ _ ⟨1, by simp [T.get], by omega, by omega⟩
    · obtain ⟨A, hA⟩ : ∃ A, M.getD i [] = A := ⟨_, rfl⟩
      rw [hA] at e e' gr lr
      have lg : (gs A).length = A.length := by simp
      have gr : (frameOf h).get rb = .cells 1 rv (gs A) := gr
      clear mf mr hA lr
      by_cases d : k < A.length
      · have ek : (gs A)[k]? = some (G (A.getD k 0)) := by
          rw [List.getElem?_map, List.getD_eq_getElem?_getD, List.getElem?_eq_getElem d]; rfl
        have ek' := getI ek
        have bd := btZ_bd (A.getD k 0)
        have hbt : IntKind.i64.wrap ((BitVec.ofInt IntKind.i64.bits (A.getD k 0) &&& BitVec.ofInt IntKind.i64.bits 1).toNat : Int) = btZ (A.getD k 0) := wrapI (btZ (A.getD k 0)) (by omega) (by omega)
        have hb : evBin .and (G (A.getD k 0)) (G 1) = some (G (btZ (A.getD k 0))) := by
          show some (AV.int .i64 (IntKind.i64.wrap ((BitVec.ofInt IntKind.i64.bits (A.getD k 0) &&& BitVec.ofInt IntKind.i64.bits 1).toNat : Int))) = _
          rw [hbt]
        clear hbt
        generalize btZ (A.getD k 0) = bt at *
        generalize A.getD k 0 = z at *
        generalize gs A = cA at *
        generalize A.length = l at *
        generalize M.length = n at *
        refine Tr.w fun s1 H1 hp _ kR => ?_
        obtain ⟨rfl, rfl⟩ := hp
        have q : True := trivial
        refine W.seq (W.chunk ?_)
        simp (disch := first|omega|exact zE rfl|exact zO|exact zL rfl) [c56_o0, zG, q]
        refine W.assoc ?_
        refine W.seq (W.chunk ?_)
        simp (disch := first|omega|exact zE rfl|exact zO|exact zL rfl) [c56_o1, zG, q, g, e, e']
        refine W.seq (W.cond (v := true) (by simp (disch := first|omega|exact zE rfl|exact zO|exact zL rfl) [zG, q]) ?_)
        simp only [if_true, if_false, Bool.false_eq_true]
        refine W.seq (W.chunk ?_)
        simp (disch := first|omega|exact zE rfl|exact zO|exact zL rfl) [-evBin, c56_o2, zG, q, g, e, e', gr, ek, ek', hb]
        refine W.ret ?_
        try simp only [zW, if_true]
        exact kR _ _ ⟨bt, by simp [T.get], by omega, by omega⟩
      · generalize gs A = cA at *
        generalize A.length = l at *
        generalize M.length = n at *
        refine Tr.w fun s1 H1 hp _ kR => ?_
        obtain ⟨rfl, rfl⟩ := hp
        have q : True := trivial
        refine W.seq (W.chunk ?_)
        simp (disch := first|omega|exact zE rfl|exact zO|exact zL rfl) [c56_o0, zG, q]
        refine W.assoc ?_
        refine W.seq (W.chunk ?_)
        simp (disch := first|omega|exact zE rfl|exact zO|exact zL rfl) [c56_o1, zG, q, g, e, e']
        refine W.seq (W.chunk ?_)
        simp (disch := first|omega|exact zE rfl|exact zO|exact zL rfl) [c56_o2, zG, q]
        refine W.seq (W.chunk ?_)
        simp (disch := first|omega|exact zE rfl|exact zO|exact zL rfl) [c56_o3, zG, q]
        refine W.ret ?_
        try simp only [zW, if_true]
        exact kR _ _ ⟨1, by simp [T.get], by omega, by omega⟩
  · have sl := mf.sl
    clear mf mr
    generalize M.length = n at *
    rcases sl with ⟨rfl, rfl⟩ | ⟨rfl, rfl⟩ | ⟨b, v, rfl⟩
    all_goals
      refine Tr.w fun s1 H1 hp _ kR => ?_
      obtain ⟨rfl, rfl⟩ := hp
      have q : True := trivial
      refine W.seq (W.chunk ?_)
      simp (disch := first|omega|exact zE rfl|exact zO|exact zL rfl) [c56_o0, zG, q]
      refine W.assoc ?_
      refine W.seq (W.chunk ?_)
      simp (disch := first|omega|exact zE rfl|exact zO|exact zL rfl) [c56_o1, zG, q]
      refine W.seq (W.chunk ?_)
      simp (disch := first|omega|exact zE rfl|exact zO|exact zL rfl) [c56_o2, zG, q]
      refine W.seq (W.chunk ?_)
      simp (disch := first|omega|exact zE rfl|exact zO|exact zL rfl) [c56_o3, zG, q]
      refine W.ret ?_
      try simp only [zW, if_true]
      exact kR _ _ ⟨1, by simp [T.get], by omega, by omega⟩
structure A56 where
  x : AV
  M : List (List Int)
  i : Nat
  k : Nat
def Pre56 (b : A56) (args : List AV) (h : Heap) : Prop := (MR h b.x b.M ∧ b.i ≤ 1000 ∧ b.k ≤ 1000) ∧ args = [b.x, G b.i, G b.k]
def Post56 (b : A56) (h : Heap) (v : AV) (own : List AObj) : Prop := (∃ b : Int, v = G b ∧ 0 ≤ b ∧ b ≤ 1) ∧ own = []
noncomputable def T48 : CallF := addK tbl T47 56 Pre56 Post56
theorem t48 : Sound Go.Proofs.Try.prog T48 := Sound.addK follows ok t47 (by decide) _ _
abbrev K56 (J : CallF) : Prop := ∀ (h : Heap) (x : AV) (M : List (List Int)) (i k : Nat), MR h x M → i ≤ 1000 → k ≤ 1000 → ∃ b : Int, J 56 [x, G i, G k] h = some (G b, [], false) ∧ 0 ≤ b ∧ b ≤ 1
theorem k56 : K56 T48 := fun h x M i k h1 h2 h3 => by
  obtain ⟨v, own, e, ⟨b, rfl, q1, q2⟩, rfl⟩ := addK_some (Pre := Pre56) (Post := Post56) (fun b args h hp => by
    obtain ⟨⟨h1, h2, h3⟩, rfl⟩ := hp
    exact c56_ok T47 (fun _ _ => by simp (disch := decide) only [T1, T2, T3, T4, T5, T6, T7, T8, T9, T10, T11, T12, T13, T14, T15, T16, T17, T18, T19, T20, T21, T22, T23, T24, T25, T26, T27, T28, T29, T30, T31, T32, T33, T34, T35, T36, T37, T38, T39, T40, T41, T42, T43, T44, T45, T46, T47, addI_ne, addX_ne, addV_ne, addK_ne]; rfl) h h1 h2 h3) ⟨x, M, i, k⟩ _ h ⟨⟨h1, h2, h3⟩, rfl⟩
  exact ⟨b, e, q1, q2⟩
theorem k19_48 : K19 T48 := fun x n h h1 h2 => by
  rw [show T48 19 [G x, G n] h = T47 19 [G x, G n] h from by simp (disch := decide) only [T48, addK_ne]]
  exact k19 x n h h1 h2
end Go.Proofs.Ytljgfdamdcikgaa.Ev
set_option linter.unusedVariables false
set_option linter.unusedSimpArgs false
namespace Go.Proofs.Ytljgfdamdcikgaa.Ev
open Go Go.AEv
structure N2 (H0 h : Heap) (xa xb : AV) (La Lb : List Int) : Prop where
  k : Kp (fun _ => False) H0 h
  a0 : ∀ q, blk xa = some q → H0.size ≤ q
  b0 : ∀ q, blk xb = some q → H0.size ≤ q
  la : LV h xa (gs La)
  lb : LV h xb (gs Lb)
  d : ∀ q, blk xa = some q → blk xb ≠ some q
theorem N2.nil (H0 : Heap) : N2 H0 H0 .nils .nils [] [] := ⟨Kp.refl _, fun _ e => (by cases e), fun _ e => (by cases e), LV.nil _, LV.nil _, fun _ e => (by cases e)⟩
theorem N2.swap {H0 h : Heap} {xa xb : AV} {La Lb : List Int} (t : N2 H0 h xa xb La Lb) : N2 H0 h xb xa Lb La := ⟨t.k, t.b0, t.a0, t.lb, t.la, fun q e1 e2 => t.d q e2 e1⟩
theorem N2.app {H0 h : Heap} (h0 : Nat) {xa xb : AV} {La Lb : List Int} (t : N2 H0 h xa xb La Lb) (z : Int) (hn : La.length ≤ 1000000) :
    ∃ x1 e h2, appA (h.plus [.cells 1 1 [G z]]) h0 none 1 8 1 [G z] xa = some (x1, e) ∧ Eff.app e (h.plus [.cells 1 1 [G z]]) = some h2 ∧ N2 H0 h2 x1 xb (La ++ [z]) Lb := by
  have k1 : Kp (fun _ => False) h (h.plus [.cells 1 1 [G z]]) := Kp.plus _ _
  obtain ⟨x1, e, h2, q1, q2, q3, q4, q5, q6⟩ := app_v (h.plus [.cells 1 1 [G z]]) h0 8 (G z) (t.la.kp k1 (fun _ _ => id)) (by simp; omega)
  have hsz : (h.plus [.cells 1 1 [G z]]).size = h.size + 1 := by rw [plus_size]; rfl
  refine ⟨x1, e, h2, q1, q2, ⟨(t.k.trans k1).late q4 t.a0, fun q hq => ?_, t.b0, by simpa using q3, (t.lb.kp k1 (fun _ _ => id)).kp q4 (fun q e1 e2 => t.d q e2 e1), fun q hq e => ?_⟩⟩
  · rcases q5 with h' | ⟨_, h'⟩
    · rw [h'] at hq; exact t.a0 q hq
    · rw [h'] at hq; cases hq; have := t.k.size; omega
  · rcases q5 with h' | ⟨_, h'⟩
    · rw [h'] at hq; exact t.d q hq e
    · rw [h'] at hq; cases hq; have := t.lb.lt e; omega
def TR (H0 h : Heap) (xb xw : AV) (M : List (List AV)) : Prop := ∃ rs, LV h xb rs ∧ rs.length = M.length ∧ ∀ (i : Nat) r, rs[i]? = some r → ∃ cs b, M[i]? = some cs ∧ r = .slice b 0 cs.length cs.length ∧ h.get b = .cells 1 cs.length cs ∧ blk xb ≠ some b ∧ blk xw ≠ some b ∧ H0.size ≤ b
structure T2t (H0 h : Heap) (s3 : Nat) (xb xw : AV) (M N : List (List AV)) : Prop where
  k : Kp (· = s3) H0 h
  b0 : ∀ c, blk xb = some c → H0.size ≤ c
  w0 : ∀ c, blk xw = some c → H0.size ≤ c
  rb : TR H0 h xb xw M
  rw' : TR H0 h xw xb N
  d : ∀ c, blk xb = some c → blk xw ≠ some c
theorem T2t.nil (H0 : Heap) (s3 : Nat) : T2t H0 H0 s3 .nils .nils [] [] := ⟨Kp.refl _, fun _ e => (by cases e), fun _ e => (by cases e), ⟨[], LV.nil _, rfl, fun i r e => by simp at e⟩, ⟨[], LV.nil _, rfl, fun i r e => by simp at e⟩, fun _ e => (by cases e)⟩
theorem T2t.swap {H0 h : Heap} {s3 : Nat} {xb xw : AV} {M N : List (List AV)} (t : T2t H0 h s3 xb xw M N) : T2t H0 h s3 xw xb N M := ⟨t.k, t.w0, t.b0, t.rw', t.rb, fun c e1 e2 => t.d c e2 e1⟩
theorem TR.kp {X : Nat → Prop} {H0 h h' : Heap} {xb xw : AV} {M : List (List AV)} (t : TR H0 h xb xw M) (k : Kp X h h') (h1 : ∀ b, blk xb = some b → ¬ X b) (h2 : ∀ b, H0.size ≤ b → blk xw ≠ some b → ¬ X b) : TR H0 h' xb xw M := by
  obtain ⟨rs, lv, hl, hr⟩ := t
  refine ⟨rs, lv.kp k h1, hl, fun i r e => ?_⟩
  obtain ⟨cs, b, e1, e2, e3, e4, e5, e6⟩ := hr i r e
  exact ⟨cs, b, e1, e2, k.at e3 (by simp) (h2 b e6 e5), e4, e5, e6⟩
theorem T2t.kp {H0 h h' : Heap} {s3 : Nat} {xb xw : AV} {M N : List (List AV)} (t : T2t H0 h s3 xb xw M N) (k : Kp (fun _ => False) h h') : T2t H0 h' s3 xb xw M N :=
  ⟨t.k.trans (k.mono fun _ _ e => e.elim), t.b0, t.w0, t.rb.kp k (fun _ _ => id) (fun _ _ _ => id), t.rw'.kp k (fun _ _ => id) (fun _ _ _ => id), t.d⟩
theorem T2t.upd {H0 h : Heap} {s3 : Nat} {xb xw : AV} {M N : List (List AV)} (t : T2t H0 h s3 xb xw M N) (X : AObj) (hN : h.N ≤ s3) (hs : s3 < H0.size) : T2t H0 (h.upd s3 X) s3 xb xw M N := by
  have k : Kp (· = s3) h (h.upd s3 X) := Kp.upd _ _ _ hN rfl
  exact ⟨t.k.trans k, t.b0, t.w0, t.rb.kp k (fun b e q => by have := t.b0 b e; omega) (fun b e _ q => by omega), t.rw'.kp k (fun b e q => by have := t.w0 b e; omega) (fun b e _ q => by omega), t.d⟩
theorem T2t.app {H0 h : Heap} (h0 : Nat) {s3 : Nat} {xb xw : AV} {M N : List (List AV)} {b : Nat} {cs : List AV} (t : T2t H0 h s3 xb xw M N) (hs : s3 < H0.size) (hv : h.get b = .cells 1 cs.length cs) (hb : blk xb ≠ some b ∧ blk xw ≠ some b ∧ H0.size ≤ b) (hn : M.length ≤ 1000000) :
    ∃ x1 e h2, appA (h.plus [.cells 1 1 [.slice b 0 cs.length cs.length]]) h0 none 1 24 1 [.slice b 0 cs.length cs.length] xb = some (x1, e) ∧ Eff.app e (h.plus [.cells 1 1 [.slice b 0 cs.length cs.length]]) = some h2 ∧ T2t H0 h2 s3 x1 xw (M ++ [cs]) N ∧ Kp (fun c => blk xb = some c) h h2 ∧ (∀ c, c < h.size → blk xb ≠ some c → blk x1 ≠ some c) := by
  obtain ⟨rs, lv, hl, hr⟩ := t.rb
  generalize hvv : AV.slice b 0 cs.length cs.length = v
  have k1 : Kp (fun _ => False) h (h.plus [.cells 1 1 [v]]) := Kp.plus _ _
  obtain ⟨x1, e, h2, q1, q2, q3, q4, q5, q6⟩ := app_v (h.plus [.cells 1 1 [v]]) h0 24 v (lv.kp k1 (fun _ _ => id)) (by omega)
  have hsz : (h.plus [.cells 1 1 [v]]).size = h.size + 1 := by rw [plus_size]; rfl
  have hx1 : ∀ q, q < h.size → blk xb ≠ some q → blk x1 ≠ some q := fun q hq hne hx1 => by
    rcases q5 with h' | ⟨_, h'⟩
    · rw [h'] at hx1; exact hne hx1
    · rw [h'] at hx1; cases hx1; omega
  have kk : Kp (fun c => blk xb = some c) h h2 := (k1.mono fun _ _ e => e.elim).trans q4
  have hxn : ∀ c, blk x1 = some c → blk xw ≠ some c ∧ H0.size ≤ c := fun c hc => by
    rcases q5 with h' | ⟨_, h'⟩
    · rw [h'] at hc; exact ⟨t.d c hc, t.b0 c hc⟩
    · rw [h'] at hc; cases hc
      refine ⟨fun e => ?_, by have := t.k.size; omega⟩
      obtain ⟨rs', lv', _⟩ := t.rw'
      have := lv'.lt e; omega
  refine ⟨x1, e, h2, q1, q2, ⟨?_, fun c hc => (hxn c hc).2, t.w0, ⟨rs ++ [v], q3, by simp [hl], fun i r hi => ?_⟩, ?_, fun c hc => (hxn c hc).1⟩, kk, hx1⟩
  · refine ⟨by rw [kk.lo, t.k.lo], by rw [kk.N, t.k.N], Nat.le_trans t.k.size kk.size, fun c hc hm => ?_⟩
    rw [kk.get c (Nat.lt_of_lt_of_le hc t.k.size) (fun e => by have := t.b0 c e; omega), t.k.get c hc hm]
  · by_cases hi' : i < rs.length
    · rw [List.getElem?_append_left hi'] at hi
      obtain ⟨l', b', h1, h2', h3, h4, h5, h6⟩ := hr i r hi
      have hlt := get_lt h3 (by simp)
      exact ⟨l', b', by rw [List.getElem?_append_left (by omega)]; exact h1, h2', kk.at h3 (by simp) (fun q => h4 q), hx1 b' hlt h4, h5, h6⟩
    · rw [List.getElem?_append_right (by omega)] at hi
      have hi0 : i - rs.length = 0 := by
        rcases Nat.eq_zero_or_pos (i - rs.length) with e | e
        · exact e
        · rw [List.getElem?_eq_none (by simp; omega)] at hi; cases hi
      rw [hi0] at hi
      simp only [List.getElem?_cons_zero, Option.some.injEq] at hi
      subst hi
      exact ⟨cs, b, by rw [List.getElem?_append_right (by omega), ← hl, hi0]; rfl, hvv.symm, kk.at hv (by simp) (fun q => hb.1 q), hx1 b (get_lt hv (by simp)) hb.1, hb.2.1, hb.2.2⟩
  · obtain ⟨rs', lv', hl', hr'⟩ := t.rw'
    refine ⟨rs', lv'.kp kk (fun c e1 e2 => t.d c e2 e1), hl', fun i r hi => ?_⟩
    obtain ⟨l', b', h1, h2', h3, h4, h5, h6⟩ := hr' i r hi
    exact ⟨l', b', h1, h2', kk.at h3 (by simp) (fun q => h5 q), h4, hx1 b' (get_lt h3 (by simp)) h5, h6⟩
theorem T2t.sh {H0 h : Heap} {s3 : Nat} {xb xw : AV} {M N : List (List AV)} {cs : List AV} (t : T2t H0 h s3 xb xw (M ++ [cs]) N) : ∃ c m, xb = .slice c 0 m m := by
  obtain ⟨rs, lv, hl, _⟩ := t.rb
  obtain ⟨c, e, _⟩ := lv.sl (by intro e; rw [e] at hl; simp at hl)
  exact ⟨c, _, e⟩
theorem T2t.tb {H0 h : Heap} {s3 : Nat} {xb xw : AV} {M N : List (List AV)} (t : T2t H0 h s3 xb xw M N) {Hb : Heap} (k0 : Kp (fun _ => False) Hb h) (hs : Hb.size ≤ H0.size) : TB Hb h xb M := by
  obtain ⟨rs, lv, hl, hr⟩ := t.rb
  exact ⟨k0, fun q hq => Nat.le_trans hs (t.b0 q hq), rs, lv, hl, fun i r hi => by
    obtain ⟨cs, b, h1, h2, h3, h4, h5, h6⟩ := hr i r hi
    exact ⟨cs, b, h1, h2, h3, h4, Nat.le_trans hs h6⟩⟩
end Go.Proofs.Ytljgfdamdcikgaa.Ev
set_option linter.unusedVariables false
set_option linter.unusedSimpArgs false
namespace Go.Proofs.Ytljgfdamdcikgaa.Ev
open Go Go.AEv
attribute [local simp] evFunc initS evOps_c evTrim_c evSkip_c evExit_c evRet_c evSeq_c evCond_c evBlock_c evDraw_c runOps_n runOps_c exec_n exec_g pure1_c act AOpd.ev T.get T.set T.put evBin evUn forceT_eq forceV_eq forceL_eq evRess evRes one keep runFP_n runFP_c app_none AV.flats AV.flat came_some List.getElem?_cons_zero List.getElem?_cons_succ beqT wrapI idxI tdivI tmodI decT decF ibT ibF inT inF evScope_c if_pos if_neg Cm_some thenW_n thenW_e thenW_r blkW_n blkW_e blkW_r goI kn putAt AV.cells fillA loadA takeA mk Eff.isAll Eff.isNone Eff.commutes Eff.spares okPair apart eqAgg fits LK.fits allEq aveq eqk mmA
def b01 (L : List Int) : Prop := ∀ z ∈ L, 0 ≤ z ∧ z ≤ 1
theorem b01_app {L : List Int} {z : Int} (h : b01 L) (h0 : 0 ≤ z) (h1 : z ≤ 1) : b01 (L ++ [z]) := fun u hu => by
  rcases List.mem_append.1 hu with hu | hu
  · exact h u hu
  · rw [List.mem_singleton.1 hu]; exact ⟨h0, h1⟩
def r01 (n : Nat) (B : List (List Int)) : Prop := ∀ l ∈ B, l.length = n ∧ b01 l
theorem r01_app {n : Nat} {B : List (List Int)} {l : List Int} (h : r01 n B) (hl : l.length = n) (hb : b01 l) : r01 n (B ++ [l]) := fun u hu => by
  rcases List.mem_append.1 hu with hu | hu
  · exact h u hu
  · rw [List.mem_singleton.1 hu]; exact ⟨hl, hb⟩
theorem r01_tab {n : Nat} {B : List (List Int)} (h : r01 n B) (hl : B.length = n) : tabQ n B = true := by
  unfold tabQ
  rw [hl]
  simp only [decide_true, Bool.true_and, List.all_eq_true]
  intro l hl
  obtain ⟨h1, h2⟩ := h l hl
  unfold rowQ
  rw [h1]
  simp only [decide_true, Bool.true_and, List.all_eq_true, decide_eq_true_eq]
  exact h2
section
variable {X Y : List (List Int)} {x y : AV} {nq S : Nat}
structure RD (S nq : Nat) (nz : Int) (x y : AV) (X Y : List (List Int)) (h : Heap) : Prop where
  gS : h.get S = .cells 0 3 [G nz, x, y]
  g3 : ∃ xb xw, h.get (S + 2) = .cells 0 3 [G nq, xb, xw]
  mx : MR h x X
  my : MR h y Y
theorem RD.kp {nz : Int} {h h' : Heap} (r : RD S nq nz x y X Y h) (k : Kp (fun _ => False) h h') : RD S nq nz x y X Y h' := by
  obtain ⟨xb, xw, g⟩ := r.g3
  exact ⟨k.at r.gS (by simp) id, ⟨xb, xw, k.at g (by simp) id⟩, r.mx.kp k, r.my.kp k⟩
abbrev F18 (S i : Nat) (s : T) : Prop := s.get [false] = .ptr S 0 3 ∧ s.get [true] = .ptr (S + 1) 0 3 ∧ s.get [false, false] = .ptr (S + 2) 0 3 ∧ s.get [true, false] = G i
abbrev T0P (S i k : Nat) (Hi : Heap) : SP := fun s h => ∃ xa xb La Lb, (N2 Hi h xa xb La Lb ∧ (La.length = k ∧ b01 La) ∧ Lb.length = k ∧ b01 Lb) ∧ F18 S i s ∧ s.get [false, true] = xa ∧ s.get [true, true] = xb ∧ s.get [false, false, false] = G k
theorem c18_l0_ok (J : CallF) (k56 : K56 J) {nz : Int} {Hi : Heap} (rd : RD S nq nz x y X Y Hi) (q3 : nq ≤ 3) {i : Nat} (hi : i ≤ 3) :
    Tr tbl J c18_l0 (T0P S i 0 Hi) (.exit 2) (fun s h => ∃ xa xb La Lb, (N2 Hi h xa xb La Lb ∧ (La.length = nq ∧ b01 La) ∧ Lb.length = nq ∧ b01 Lb) ∧ F18 S i s ∧ s.get [false, true] = xa ∧ s.get [true, true] = xb) := by
  refine Tr.rounds (e := .exit 2) (P := fun k => T0P S i k Hi) (M := nq) (fun k hk => ?_) ?_ (by simp) 0 (by omega)
  · unfold T0P F18
    refine Tr.w fun s1 H1 hp _ kR => W.trim ?_
    obtain ⟨xa, xb, La, Lb, ⟨n2, ⟨l1, b1⟩, l2, b2⟩, q⟩ := hp
    obtain ⟨gS, ⟨ub, uw, g3⟩, mx, my⟩ := rd.kp n2.k
    obtain ⟨z1, e1, z10, z11⟩ := k56 H1 x X i k mx (by omega) (by omega)
    obtain ⟨x1, e, H2, p1, p2, n3⟩ := n2.app H1.size z1 (by omega)
    obtain ⟨gS2, ⟨ub2, uw2, g32⟩, mx2, my2⟩ := rd.kp n3.k
    obtain ⟨z2, e2, z20, z21⟩ := k56 H2 y Y i k my2 (by omega) (by omega)
    obtain ⟨x2, e', H3, p3, p4, n4⟩ := n3.swap.app H2.size z2 (by omega)
    have fin : N2 Hi H3 x1 x2 (La ++ [z1]) (Lb ++ [z2]) ∧ ((La ++ [z1]).length = k + 1 ∧ b01 (La ++ [z1])) ∧ (Lb ++ [z2]).length = k + 1 ∧ b01 (Lb ++ [z2]) := ⟨n4.swap, ⟨by simp [l1], b01_app b1 z10 z11⟩, by simp [l2], b01_app b2 z20 z21⟩
    clear n2 n3 n4 rd mx my mx2 my2
    refine W.assoc ?_
    refine W.seq (W.chunk ?_)
    simp (disch := first|omega|exact zE rfl|exact zO|exact zL rfl) [c18_o6, zG, q, g3]
    refine W.seq (W.chunk ?_)
    simp (disch := first|omega|exact zE rfl|exact zO|exact zL rfl) [zG, q]
    refine W.seq (W.block ?_)
    refine W.seq (W.chunk ?_)
    simp (disch := first|omega|exact zE rfl|exact zO|exact zL rfl) [c18_o7, zG, q, gS, e1, p1, p2, app1_at, elems, rdOf]
    refine W.chunk ?_
    simp (disch := first|omega|exact zE rfl|exact zO|exact zL rfl) [c18_o8, zG, q, gS2, e2, p3, p4, app1_at, elems, rdOf]
    refine W.chunk ?_
    simp (disch := first|omega|exact zE rfl|exact zO|exact zL rfl) [c18_o9, zG, q]
    exact kR _ _ ⟨_, _, _, _, fin, by simp [T.get, q]⟩
  · unfold T0P F18
    refine Tr.w fun s1 H1 hp _ kR => W.trim ?_
    obtain ⟨xa, xb, La, Lb, ⟨n2, ⟨l1, b1⟩, l2, b2⟩, q⟩ := hp
    obtain ⟨gS, ⟨ub, uw, g3⟩, mx, my⟩ := rd.kp n2.k
    clear rd mx my
    refine W.assoc ?_
    refine W.seq (W.chunk ?_)
    simp (disch := first|omega|exact zE rfl|exact zO|exact zL rfl) [c18_o6, zG, q, g3]
    refine W.seq (W.chunk ?_)
    simp (disch := first|omega|exact zE rfl|exact zO|exact zL rfl) [zG, q]
    exact kR _ _ ⟨_, _, _, _, ⟨n2, ⟨l1, b1⟩, l2, b2⟩, by simp [T.get, q]⟩
abbrev T1P (S nq i : Nat) (H0 : Heap) : SP := fun s h => ∃ xb xw B W, (T2t H0 h (S + 2) xb xw (B.map gs) (W.map gs) ∧ h.get (S + 2) = .cells 0 3 [G nq, xb, xw] ∧ (B.length = i ∧ r01 nq B) ∧ W.length = i ∧ r01 nq W) ∧ F18 S i s
theorem c18_b1_ok (J : CallF) (k56 : K56 J) {nz : Int} {H0 : Heap} (gS0 : H0.get S = .cells 0 3 [G nz, x, y]) (base : ∀ h, Kp (· = S + 2) H0 h → MR h x X ∧ MR h y Y) (hN : H0.N ≤ S + 2) (hs : S + 2 < H0.size) (q1 : 1 ≤ nq) (q3 : nq ≤ 3) {i : Nat} (hi : i < nq) :
    Tr tbl J (.trim [[false], [true], [false, false], [true, false]] c18_b1) (T1P S nq i H0) .normal (T1P S nq (i + 1) H0) := by
  unfold T1P
  refine Tr.w fun s1 H1 hp _ kR => W.trim ?_
  obtain ⟨xb, xw, B, Y0, ⟨tt, g3, ⟨lB, rB⟩, lW, rW⟩, q⟩ := hp
  obtain ⟨mx, my⟩ := base H1 tt.k
  have rd : RD S nq nz x y X Y H1 := ⟨tt.k.at gS0 (by simp) (by omega), ⟨xb, xw, g3⟩, mx, my⟩
  have l0 := c18_l0_ok J k56 rd q3 (i := i) (by omega)
  have n0 : N2 H1 H1 .nils .nils [] [] := N2.nil H1
  have b00 : b01 [] := fun z hz => by cases hz
  have step : ∀ h xa xc La Lb, N2 H1 h xa xc La Lb → La.length = nq → b01 La → Lb.length = nq → b01 Lb → ∃ ba bc, xa = .slice ba 0 nq nq ∧ xc = .slice bc 0 nq nq ∧ h.get (S + 2) = .cells 0 3 [G nq, xb, xw] ∧
      ∃ x1 e h2 h3, appA (h.plus [.cells 1 1 [.slice ba 0 nq nq]]) h.size none 1 24 1 [.slice ba 0 nq nq] xb = some (x1, e) ∧ Eff.app e (h.plus [.cells 1 1 [.slice ba 0 nq nq]]) = some h2 ∧ Eff.app (.put (S + 2) 3 1 [x1]) h2 = some h3 ∧ h3.get (S + 2) = .cells 0 3 [G nq, x1, xw] ∧ (∃ c m, x1 = .slice c 0 m m) ∧
      ∃ x2 e' h4 h5, appA (h3.plus [.cells 1 1 [.slice bc 0 nq nq]]) h3.size none 1 24 1 [.slice bc 0 nq nq] xw = some (x2, e') ∧ Eff.app e' (h3.plus [.cells 1 1 [.slice bc 0 nq nq]]) = some h4 ∧ Eff.app (.put (S + 2) 3 2 [x2]) h4 = some h5 ∧ (∃ c m, x2 = .slice c 0 m m) ∧
      T2t H0 h5 (S + 2) x1 x2 ((B ++ [La]).map gs) ((Y0 ++ [Lb]).map gs) ∧ h5.get (S + 2) = .cells 0 3 [G nq, x1, x2] ∧ ((B ++ [La]).length = i + 1 ∧ r01 nq (B ++ [La])) ∧ (Y0 ++ [Lb]).length = i + 1 ∧ r01 nq (Y0 ++ [Lb]) := fun h xa xc La Lb n2 e1 e2 e3 e4 => by
    have ga : (gs La).length = nq := by simp [e1]
    have gc : (gs Lb).length = nq := by simp [e3]
    obtain ⟨ba, rfl, ha⟩ := n2.la.sl (by intro e; rw [e] at ga; simp at ga; omega)
    obtain ⟨bc, rfl, hc⟩ := n2.lb.sl (by intro e; rw [e] at gc; simp at gc; omega)
    have a0 := n2.a0 ba rfl
    have c0 := n2.b0 bc rfl
    have dd : ba ≠ bc := fun e => n2.d ba rfl (by rw [e]; rfl)
    rw [ga] at ha ⊢
    rw [gc] at hc ⊢
    have t1 := tt.kp n2.k
    have lxb : ∀ c, blk xb = some c → c < H1.size := fun c e => by obtain ⟨rs, lv, _⟩ := tt.rb; exact lv.lt e
    have lxw : ∀ c, blk xw = some c → c < H1.size := fun c e => by obtain ⟨rs, lv, _⟩ := tt.rw'; exact lv.lt e
    have szH := tt.k.size
    obtain ⟨x1, e, h2, p1, p2, t2, k2, f2⟩ := t1.app h.size (b := ba) (cs := gs La) hs (by rw [ga]; exact ha) ⟨fun e => by have := lxb _ e; omega, fun e => by have := lxw _ e; omega, by omega⟩ (by rw [List.length_map]; omega)
    rw [ga] at p1 p2
    have g3h := n2.k.at g3 (by simp) id
    have g32 := k2.at g3h (by simp) (fun e => by have := tt.b0 _ e; omega)
    have N2' : h2.N ≤ S + 2 := by rw [t2.k.N]; exact hN
    have t3 := t2.upd (.cells 0 3 [G nq, x1, xw]) N2' hs
    have hc2 := k2.at hc (by simp) (fun e => by have := lxb _ e; omega)
    have hc3 : (h2.upd (S + 2) (.cells 0 3 [G nq, x1, xw])).get bc = .cells 1 nq (gs Lb) := by rw [upd_ne _ _ _ _ N2' (by omega)]; exact hc2
    have g33 : (h2.upd (S + 2) (.cells 0 3 [G nq, x1, xw])).get (S + 2) = .cells 0 3 [G nq, x1, xw] := upd_same _ _ _ N2' (get_lt g32 (by simp))
    have bch := get_lt hc (by simp)
    obtain ⟨x2, e', h4, p3, p4, t4, k4, f4⟩ := t3.swap.app (h2.upd (S + 2) (.cells 0 3 [G nq, x1, xw])).size (b := bc) (cs := gs Lb) hs (by rw [gc]; exact hc3) ⟨fun e => by have := lxw _ e; omega, f2 bc bch (fun e => by have := lxb _ e; omega), by omega⟩ (by rw [List.length_map]; omega)
    rw [gc] at p3 p4
    have g34 := k4.at g33 (by simp) (fun e => by have := tt.w0 _ e; omega)
    have N4 : h4.N ≤ S + 2 := by rw [t4.k.N]; exact hN
    refine ⟨ba, bc, rfl, rfl, g3h, x1, e, h2, _, p1, p2, ?_, g33, t2.sh, x2, e', h4, _, p3, p4, ?_, t4.sh, ?_, upd_same _ _ _ N4 (get_lt g34 (by simp)), ⟨by simp [lB], r01_app rB e1 e2⟩, by simp [lW], r01_app rW e3 e4⟩
    · rw [put_gen _ _ _ _ _ _ _ N2' g32 (by simp)]; rfl
    · rw [put_gen _ _ _ _ _ _ _ N4 g34 (by simp)]; rfl
    · have := t4.swap.upd (.cells 0 3 [G nq, x1, x2]) N4 hs
      rw [List.map_append, List.map_append]
      exact this
  have l0 : Tr tbl J c18_l0 (fun s h => h = H1 ∧ s.get [false] = .ptr S 0 3 ∧ s.get [true] = .ptr (S + 1) 0 3 ∧ s.get [false, false] = .ptr (S + 2) 0 3 ∧ s.get [true, false] = G i ∧ s.get [false, true] = .nils ∧ s.get [true, true] = .nils ∧ s.get [false, false, false] = G ((0 : Nat) : Int)) (.exit 2) _ := Tr.pre (fun s h hp => (by
    obtain ⟨rfl, a1, a2, a3, a4, a5, a6, a7⟩ := hp
    exact ⟨.nils, .nils, [], [], ⟨n0, ⟨rfl, b00⟩, rfl, b00⟩, ⟨a1, a2, a3, a4⟩, a5, a6, a7⟩ : T0P S i 0 H1 s h)) l0
  unfold F18 at q kR l0
  clear tt rd mx my rB rW lB lW
  refine W.assoc ?_
  refine W.seq (W.chunk ?_)
  simp (disch := first|omega|exact zE rfl|exact zO|exact zL rfl) [c18_o3, zG, q, g3]
  refine W.seq (W.chunk ?_)
  simp (disch := first|omega|exact zE rfl|exact zO|exact zL rfl) [zG, q]
  refine W.seq (W.block ?_)
  refine W.seq (W.chunk ?_)
  simp (disch := first|omega|exact zE rfl|exact zO|exact zL rfl) [c18_o4, zG, q]
  refine W.assoc ?_
  refine W.seq (W.chunk ?_)
  simp (disch := first|omega|exact zE rfl|exact zO|exact zL rfl) [c18_o5, zG, q]
  refine W.seq (W.block ?_)
  refine W.use (l0) (by simp (disch := first|omega|exact zE rfl|exact zO|exact zL rfl) [zG, q]) fun s1 H1 hp => ?_
  obtain ⟨xa, xc, La, Lb, ⟨n2, ⟨e1, e2⟩, e3, e4⟩, q⟩ := hp
  try simp only [zW, if_true]
  obtain ⟨ba, bc, rfl, rfl, g3h, x1, e, h2, h3, p1, p2, p3, g33, ⟨c1, m1, rfl⟩, x2, e', h4, h5, p4, p5, p6, ⟨c2, m2, rfl⟩, fin⟩ := step _ _ _ _ _ n2 e1 e2 e3 e4
  refine W.seq (W.chunk ?_)
  simp (disch := first|omega|exact zE rfl|exact zO|exact zL rfl) [c18_o10, zG, q, g3h, p1, p2, p3, app1_at, elems, rdOf]
  refine W.chunk ?_
  simp (disch := first|omega|exact zE rfl|exact zO|exact zL rfl) [c18_o11, zG, q, g33, p4, p5, p6, app1_at, elems, rdOf]
  refine W.chunk ?_
  simp (disch := first|omega|exact zE rfl|exact zO|exact zL rfl) [c18_o12, zG, q]
  exact kR _ _ ⟨_, _, _, _, fin, by simp [T.get, q]⟩
theorem c18_ok (J : CallF) (k19 : K19 J) (k56 : K56 J) (hJ : ∀ a h, J 18 a h = none) (h : Heap) {qz : Int} (mx : MR h x X) (my : MR h y Y) :
    ∃ v own, CallsTo tbl J 18 [.agg [G qz, x, y]] h (v, own, false) ∧ ∃ n x' y' B W, v = .agg [G (n : Nat), x', y'] ∧ (1 ≤ n ∧ n ≤ 3) ∧ (TB h (h.plus own) x' (B.map gs) ∧ tabQ n B = true) ∧ TB h (h.plus own) y' (W.map gs) ∧ tabQ n W = true := by
  refine Tr.fny (cf := c18) (e := .ret) (s := T.set .leaf [] (.agg [G qz, x, y])) (by decide) rfl (hJ _ _) rfl rfl (by simp) ?_
  have mb := mdZ_bd (IntKind.i64.wrap (qz - 1)) (n := 3) (by omega)
  have kk := k19 (IntKind.i64.wrap (qz - 1)) 3 ⟨h.get, h.size, [.cells 0 3 [G qz, x, y], .cells 0 3 [G 0, .nils, .nils]]⟩ (by omega) (by omega)
  generalize mdZ (IntKind.i64.wrap (qz - 1)) 3 = z at *
  obtain ⟨n, hn⟩ : ∃ n : Nat, (n : Int) = 1 + z := ⟨(1 + z).toNat, by omega⟩
  obtain ⟨H0, hH0⟩ : ∃ H, (⟨h.get, h.size, [.cells 0 3 [G qz, x, y], .cells 0 3 [G 0, .nils, .nils], .cells 0 3 [G (1 + z), .nils, .nils]]⟩ : Heap) = H := ⟨_, rfl⟩
  obtain ⟨S, hS⟩ : ∃ S, h.size = S := ⟨_, rfl⟩
  have hs : H0.size = S + 3 := by rw [← hH0, ← hS]; rfl
  have hN : H0.N = S := by rw [← hH0, ← hS]
  have gS0 : H0.get S = .cells 0 3 [G qz, x, y] := by rw [← hH0, ← hS, get_mk_ge _ _ _ _ (Nat.le_refl _), Nat.sub_self]; rfl
  have g1 : H0.get (S + 1) = .cells 0 3 [G 0, .nils, .nils] := by rw [← hH0, ← hS, get_mk_ge _ _ _ _ (by omega), Nat.add_sub_cancel_left]; rfl
  have g3 : H0.get (S + 2) = .cells 0 3 [G n, .nils, .nils] := by rw [← hH0, ← hS, get_mk_ge _ _ _ _ (by omega), Nat.add_sub_cancel_left, hn]; rfl
  have low : ∀ h', Kp (· = S + 2) H0 h' → Kp (fun _ => False) (frameOf h) h' := fun h' k => Kp.low (by rw [k.lo, ← hH0]) (by rw [k.N, hN, hS])
  have base : ∀ h', Kp (· = S + 2) H0 h' → MR h' x X ∧ MR h' y Y := fun h' k => ⟨MR.kp (mx.lo []) (low h' k), MR.kp (my.lo []) (low h' k)⟩
  have l1 : Tr tbl J c18_l1 (fun s h' => h' = H0 ∧ s.get [false] = .ptr S 0 3 ∧ s.get [true] = .ptr (S + 1) 0 3 ∧ s.get [false, false] = .ptr (S + 2) 0 3 ∧ s.get [true, false] = G ((0 : Nat) : Int)) (.exit 0) (fun s h => ∃ xb xw B W, (T2t H0 h (S + 2) xb xw (B.map gs) (W.map gs) ∧ h.get (S + 2) = .cells 0 3 [G n, xb, xw] ∧ (B.length = n ∧ r01 n B) ∧ W.length = n ∧ r01 n W) ∧ s.get [true] = .ptr (S + 1) 0 3 ∧ s.get [false, false] = .ptr (S + 2) 0 3) := by
    refine Tr.pre (P := T1P S n 0 H0) (fun s h' hp => by
      obtain ⟨rfl, a1, a2, a3, a4⟩ := hp
      exact ⟨.nils, .nils, [], [], ⟨T2t.nil _ _, g3, ⟨rfl, fun l hl => by cases hl⟩, rfl, fun l hl => by cases hl⟩, a1, a2, a3, a4⟩) ?_
    refine Tr.rounds (e := .exit 0) (P := fun i => T1P S n i H0) (M := n) (fun i hi => c18_b1_ok J k56 gS0 base (by omega) (by omega) (by omega) (by omega) hi) ?_ (by simp) 0 (by omega)
    unfold T1P F18
    refine Tr.w fun s1 H1 hp _ kR => W.trim ?_
    obtain ⟨xb, xw, B, Y0, ⟨tt, g3, c1, c2⟩, q⟩ := hp
    clear base low
    refine W.assoc ?_
    refine W.seq (W.chunk ?_)
    simp (disch := first|omega|exact zE rfl|exact zO|exact zL rfl) [c18_o3, zG, q, g3]
    refine W.seq (W.chunk ?_)
    simp (disch := first|omega|exact zE rfl|exact zO|exact zL rfl) [zG, q]
    exact kR _ _ ⟨_, _, _, _, ⟨tt, g3, c1, c2⟩, by simp [T.get, q]⟩
  have fin : ∀ h' xb xw B W, T2t H0 h' (S + 2) xb xw (B.map gs) (W.map gs) → h'.get (S + 2) = .cells 0 3 [G n, xb, xw] → (B.length = n ∧ r01 n B) → (W.length = n ∧ r01 n W) → ∃ h2, Eff.app (.put (S + 1) 3 0 [G n, xb, xw]) h' = some h2 ∧ h2.get (S + 1) = .cells 0 3 [G n, xb, xw] ∧
      (if (one [AV.agg [G n, xb, xw]]).flat then [] else h2.own) = h2.own ∧ (∃ c m, xb = .slice c 0 m m) ∧ (∃ c m, xw = .slice c 0 m m) ∧ (TB h (h.plus h2.own) xb (B.map gs) ∧ tabQ n B = true) ∧ TB h (h.plus h2.own) xw (W.map gs) ∧ tabQ n W = true := fun h' xb xw B Y0 tt g ⟨b1, b2⟩ ⟨w1, w2⟩ => by
    have N' : h'.N = S := by rw [tt.k.N, hN]
    have g1' := tt.k.at g1 (by simp) (by omega)
    have kU : Kp (· = S + 1) h' (h'.upd (S + 1) (.cells 0 3 [G n, xb, xw])) := Kp.upd _ _ _ (by omega) rfl
    have lowU : Kp (fun _ => False) (frameOf h) (h'.upd (S + 1) (.cells 0 3 [G n, xb, xw])) := Kp.low (by show h'.lo = _; rw [tt.k.lo, ← hH0]) (by show h'.N = _; rw [N', hS])
    have lowh := low h' tt.k
    have fs : (frameOf h).size ≤ H0.size := by show h.size + 0 ≤ _; omega
    have tb1 := tt.tb lowh fs
    have tb2 := tt.swap.tb lowh fs
    have tb1' : TB (frameOf h) (h'.upd (S + 1) (.cells 0 3 [G n, xb, xw])) xb (B.map gs) := by
      have t0 : TB H0 h' xb (B.map gs) → TB (frameOf h) (h'.upd (S + 1) (.cells 0 3 [G n, xb, xw])) xb (B.map gs) := fun t => TB.kpm t kU (fun b e => by omega) lowU fs
      obtain ⟨rs, lv, hl, hr⟩ := tt.rb
      refine ⟨lowU, fun q hq => Nat.le_trans fs (tt.b0 q hq), rs, lv.kp kU (fun b e q => by have := tt.b0 b e; omega), hl, fun i r hi => ?_⟩
      obtain ⟨cs, b, h1, h2, h3, h4, h5, h6⟩ := hr i r hi
      exact ⟨cs, b, h1, h2, kU.at h3 (by simp) (by omega), h4, by omega⟩
    have tb2' : TB (frameOf h) (h'.upd (S + 1) (.cells 0 3 [G n, xb, xw])) xw (Y0.map gs) := by
      obtain ⟨rs, lv, hl, hr⟩ := tt.rw'
      refine ⟨lowU, fun q hq => Nat.le_trans fs (tt.w0 q hq), rs, lv.kp kU (fun b e q => by have := tt.w0 b e; omega), hl, fun i r hi => ?_⟩
      obtain ⟨cs, b, h1, h2, h3, h4, h5, h6⟩ := hr i r hi
      exact ⟨cs, b, h1, h2, kU.at h3 (by simp) (by omega), h4, by omega⟩
    obtain ⟨c1, r1, e1, _⟩ := tb1.sl (i := 0) (by rw [List.length_map]; omega)
    obtain ⟨c2, r2, e2, _⟩ := tb2.sl (i := 0) (by rw [List.length_map]; omega)
    refine ⟨_, ?_, upd_same _ _ _ (by omega) (get_lt g1' (by simp)), ?_, ⟨c1, _, e1⟩, ⟨c2, _, e2⟩, ⟨tb1'.fr, r01_tab b2 b1⟩, tb2'.fr, r01_tab w2 w1⟩
    · rw [put_gen _ _ _ _ _ _ _ (by omega) g1' (by simp)]; rfl
    · rw [if_neg (by rw [e1]; simp [one, AV.flat, AV.flats])]
  rw [hS] at kk hH0
  clear base low mx my k56
  have hn3 : 1 ≤ n ∧ n ≤ 3 := by omega
  refine Tr.w fun s1 H1 hp _ kR => ?_
  obtain ⟨rfl, rfl⟩ := hp
  have q : True := trivial
  refine W.seq (W.chunk ?_)
  simp (disch := first|omega|exact zE rfl|exact zO|exact zL rfl) [c18_o0, size_mk, get_mk_lt, get_mk_ge, frameOf, Eff.app, Heap.setOwn, q, hS]
  refine W.seq (W.chunk ?_)
  simp (disch := first|omega|exact zE rfl|exact zO|exact zL rfl) [c18_o1, size_mk, get_mk_lt, get_mk_ge, frameOf, Eff.app, Heap.setOwn, q, kk, hS, hH0]
  refine W.assoc ?_
  refine W.seq (W.chunk ?_)
  simp (disch := first|omega|exact zE rfl|exact zO|exact zL rfl) [c18_o2, size_mk, get_mk_lt, get_mk_ge, frameOf, Eff.app, Heap.setOwn, q, hH0]
  refine W.seq (W.block ?_)
  refine W.use (l1) (by simp (disch := first|omega|exact zE rfl|exact zO|exact zL rfl) [size_mk, get_mk_lt, get_mk_ge, frameOf, Eff.app, Heap.setOwn, q]) fun s1 H1 hp => ?_
  obtain ⟨xb, xw, B, Y0, ⟨tt, g, c1, c2⟩, q⟩ := hp
  try simp only [zW, if_true]
  obtain ⟨h2, p1, gU, f1, ⟨d1, m1, rfl⟩, ⟨d2, m2, rfl⟩, f2, f3⟩ := fin _ _ _ _ _ tt g c1 c2
  refine W.seq (W.chunk ?_)
  simp (disch := first|omega|exact zE rfl|exact zO|exact zL rfl) [c18_o13, zG, q, g, p1]
  refine W.ret ?_
  try simp only [zW, if_true]
  refine kR _ _ ?_
  refine ⟨[.agg [G n, .slice d1 0 m1 m1, .slice d2 0 m2 m2]], by simp [T.get, c18, evRess, evRes, loadA, gU, takeA, q], n, _, _, B, Y0, rfl, hn3, ?_, ?_⟩
  · rw [f1]; exact f2
  · rw [f1]; exact f3
end
def Pre18 (a : ATs) (args : List AV) (h : Heap) : Prop := Ok24 a h ∧ args = [.agg [G a.q, a.x, a.y]]
def Post18 (a : ATs) (h : Heap) (v : AV) (own : List AObj) : Prop := ∃ n x' y' B W, v = .agg [G (n : Nat), x', y'] ∧ (1 ≤ n ∧ n ≤ 3) ∧ (TB h (h.plus own) x' (B.map gs) ∧ tabQ n B = true) ∧ TB h (h.plus own) y' (W.map gs) ∧ tabQ n W = true
noncomputable def T49 : CallF := addK tbl T48 18 Pre18 Post18
theorem t49 : Sound Go.Proofs.Try.prog T49 := Sound.addK follows ok t48 (by decide) _ _
abbrev K18 (J : CallF) : Prop := ∀ (h : Heap) (a : ATs), Ok24 a h → ∃ v own, J 18 [.agg [G a.q, a.x, a.y]] h = some (v, own, false) ∧ Post18 a h v own
theorem k18 : K18 T49 := fun h a o => by
  obtain ⟨v, own, e, l⟩ := addK_some (Pre := Pre18) (Post := Post18) (fun a args h hp => by
    obtain ⟨o, rfl⟩ := hp
    exact c18_ok T48 k19_48 k56 (fun _ _ => by simp (disch := decide) only [T1, T2, T3, T4, T5, T6, T7, T8, T9, T10, T11, T12, T13, T14, T15, T16, T17, T18, T19, T20, T21, T22, T23, T24, T25, T26, T27, T28, T29, T30, T31, T32, T33, T34, T35, T36, T37, T38, T39, T40, T41, T42, T43, T44, T45, T46, T47, T48, addI_ne, addX_ne, addV_ne, addK_ne]; rfl) h o.1 o.2) a _ h ⟨o, rfl⟩
  exact ⟨v, own, e, l⟩
end Go.Proofs.Ytljgfdamdcikgaa.Ev
set_option linter.unusedVariables false
set_option linter.unusedSimpArgs false
namespace Go.Proofs.Ytljgfdamdcikgaa.Ev
open Go Go.AEv
def GR (q m : Nat) : Nat → List (List (List Nat))
  | 0 => [[]]
  | k + 1 => (exL q m []).flatMap fun w => (GR q m k).map (w :: ·)
def chn (B W : List (List Int)) : List Nat → List (List Nat) → Bool
  | _, [] => true
  | w, w' :: g => (blw W w w' && bsd B w') && chn B W w' g
def okb (B W : List (List Int)) : List (List Nat) → Bool
  | [] => true
  | w :: g => bsd B w && chn B W w g
theorem sum_filter {α : Type} (l : List α) (p : α → Bool) (f : α → Nat) : (l.map fun w => if p w then f w else 0).sum = ((l.filter p).map f).sum := by
  induction l with
  | nil => rfl
  | cons a l ih =>
    rw [List.map_cons, List.sum_cons, ih, List.filter_cons]
    cases p a <;> simp
def nG (B W : List (List Int)) (q m k : Nat) (w : List Nat) : Nat := ((GR q m k).filter (chn B W w)).length
theorem flat_len {α β : Type} (l : List α) (f : α → List β) (p : β → Bool) : ((l.flatMap f).filter p).length = (l.map fun a => ((f a).filter p).length).sum := by
  induction l with
  | nil => rfl
  | cons a l ih => rw [List.flatMap_cons, List.filter_append, List.length_append, ih, List.map_cons, List.sum_cons]
theorem cons_len (B W : List (List Int)) (w w' : List Nat) (l : List (List (List Nat))) : ((l.map (w' :: ·)).filter (chn B W w)).length = if (blw W w w' && bsd B w') then (l.filter (chn B W w')).length else 0 := by
  rw [List.filter_map, List.length_map]
  have : (chn B W w ∘ fun x => w' :: x) = fun g => (blw W w w' && bsd B w') && chn B W w' g := rfl
  rw [this]
  cases (blw W w w' && bsd B w')
  · simp
  · simp
theorem nG_succ (B W : List (List Int)) (q m k : Nat) (w : List Nat) : nG B W q m (k + 1) w = (((rwL q B m).filter (blw W w)).map (nG B W q m k)).sum := by
  unfold nG
  show (((exL q m []).flatMap fun w' => (GR q m k).map (w' :: ·)).filter (chn B W w)).length = _
  rw [flat_len]
  simp only [cons_len]
  rw [sum_filter (exL q m []) (fun w' => blw W w w' && bsd B w') (fun w' => ((GR q m k).filter (chn B W w')).length)]
  unfold rwL
  rw [List.filter_filter]
theorem get_map (R : List (List Nat)) : R = (List.range R.length).map fun j => R.getD j [] := by
  apply List.ext_getElem?
  intro i
  by_cases h : i < R.length
  · rw [List.getElem?_map, List.getElem?_range h, List.getElem?_eq_getElem h]
    show some R[i] = some (R.getD i [])
    rw [List.getD_eq_getElem?_getD, List.getElem?_eq_getElem h]; rfl
  · rw [List.getElem?_eq_none (by omega), List.getElem?_eq_none (by simp; omega)]
theorem nx_sum (W : List (List Int)) (R : List (List Nat)) (w : List Nat) (f : List Nat → Nat) : ((R.filter (blw W w)).map f).sum = ((nxL W R w).map fun j => f (R.getD j [])).sum := by
  conv => lhs; rw [get_map R]
  rw [List.filter_map, List.map_map]
  rfl
theorem cnt_nG (B W : List (List Int)) (q m : Nat) : ∀ k i, i < (rwL q B m).length → cnt (stL W (rwL q B m)) k i = nG B W q m k ((rwL q B m).getD i [])
  | 0, i, _ => rfl
  | k + 1, i, hi => by
    rw [nG_succ, nx_sum]
    have e : (stL W (rwL q B m)).getD i [] = nxL W (rwL q B m) ((rwL q B m).getD i []) := by
      unfold stL
      rw [List.getD_eq_getElem?_getD, List.getElem?_map, List.getElem?_eq_getElem hi, List.getD_eq_getElem?_getD, List.getElem?_eq_getElem hi]; rfl
    show (((stL W (rwL q B m)).getD i []).map (cnt (stL W (rwL q B m)) k)).sum = _
    rw [e]
    congr 1
    apply List.map_congr_left
    intro j hj
    exact cnt_nG B W q m k j (nxL_lt hj)
theorem rowC_grid (B W : List (List Int)) (q m k : Nat) : (rowC (stL W (rwL q B m)) k).sum = ((GR q m (k + 1)).filter (okb B W)).length := by
  show _ = (((exL q m []).flatMap fun w' => (GR q m k).map (w' :: ·)).filter (okb B W)).length
  rw [flat_len]
  have e : ∀ w', (((GR q m k).map (w' :: ·)).filter (okb B W)).length = if bsd B w' then nG B W q m k w' else 0 := fun w' => by
    rw [List.filter_map, List.length_map]
    have : (okb B W ∘ fun x => w' :: x) = fun g => bsd B w' && chn B W w' g := rfl
    rw [this]
    unfold nG
    cases bsd B w' <;> simp
  simp only [e]
  rw [sum_filter (exL q m []) (bsd B) (nG B W q m k)]
  show _ = ((rwL q B m).map (nG B W q m k)).sum
  unfold rowC
  have sl : (stL W (rwL q B m)).length = (rwL q B m).length := by simp [stL]
  rw [sl]
  conv => rhs; rw [get_map (rwL q B m)]
  rw [List.map_map]
  congr 1
  apply List.map_congr_left
  intro i hi
  exact cnt_nG B W q m k i (List.mem_range.1 hi)
def ge (g : List (List Nat)) (i j : Nat) : Nat := (g.getD i []).getD j 0
theorem GR_len (q m : Nat) : ∀ n, (GR q m n).length = (q ^ m) ^ n
  | 0 => rfl
  | n + 1 => by
    have e : ∀ w, ((GR q m n).map fun x => w :: x).length = (q ^ m) ^ n := fun w => by rw [List.length_map, GR_len]
    unfold GR
    rw [List.length_flatMap]
    simp only [e]
    rw [List.map_const', List.sum_replicate_nat, exL_len, Nat.pow_succ, Nat.mul_comm]
theorem rowC_small {B W : List (List Int)} {q m k : Nat} (hq : q ≤ 3) (hm : m ≤ 5) (hk : k < 5) : (rowC (stL W (rwL q B m)) k).sum ≤ 1152921504606846976 := by
  rw [rowC_grid]
  refine Nat.le_trans (List.length_filter_le _ _) ?_
  rw [GR_len]
  have a : q ^ m ≤ 243 := Nat.le_trans (Nat.pow_le_pow_left hq m) (Nat.le_trans (Nat.pow_le_pow_right (by decide) hm) (by decide))
  exact Nat.le_trans (Nat.pow_le_pow_left a (k + 1)) (Nat.le_trans (Nat.pow_le_pow_right (by decide) (show k + 1 ≤ 5 by omega)) (by decide))
end Go.Proofs.Ytljgfdamdcikgaa.Ev
set_option linter.unusedVariables false
set_option linter.unusedSimpArgs false
namespace Go.Proofs.Ytljgfdamdcikgaa.Ev
open Go Go.AEv
attribute [local simp] evFunc initS evOps_c evTrim_c evSkip_c evExit_c evRet_c evSeq_c evCond_c evBlock_c evDraw_c runOps_n runOps_c exec_n exec_g pure1_c act AOpd.ev T.get T.set T.put evBin evUn forceT_eq forceV_eq forceL_eq evRess evRes one keep runFP_n runFP_c app_none AV.flats AV.flat came_some List.getElem?_cons_zero List.getElem?_cons_succ beqT wrapI idxI tdivI tmodI decT decF ibT ibF inT inF evScope_c if_pos if_neg Cm_some thenW_n thenW_e thenW_r blkW_n blkW_e blkW_r goI kn putAt AV.cells fillA loadA takeA mk Eff.isAll Eff.isNone Eff.commutes Eff.spares okPair apart eqAgg fits LK.fits allEq aveq eqk mmA
theorem TB.mr {H0 h : Heap} {x : AV} {M : List (List Int)} (t : TB H0 h x (M.map gs)) : MR h x M := by
  obtain ⟨rs, lv, hl, hr⟩ := t.r
  rw [List.length_map] at hl
  rcases lv with ⟨rfl, rfl⟩ | ⟨b, rfl, g, n⟩
  · exact .inl ⟨.inl rfl, List.length_eq_zero_iff.1 hl.symm⟩
  · refine .inr ⟨b, rs.length, rs, by rw [hl], g, hl, fun i r e => ?_⟩
    obtain ⟨cs, b', h1, h2, h3, _⟩ := hr i r e
    rw [List.getElem?_map] at h1
    cases hN : M[i]? with
    | none => rw [hN] at h1; cases h1
    | some l =>
      rw [hN] at h1
      simp only [Option.map_some, Option.some.injEq] at h1
      subst h1
      exact ⟨l, rfl, .inl (by rw [h2]; exact listOf_cells h3 (by simp))⟩
theorem tabQ_small {n : Nat} {B : List (List Int)} (h : tabQ n B = true) (h3 : n ≤ 3) : smallM B ∧ B.length ≤ 1000000 ∧ ∀ l ∈ B, l.length ≤ 1000000 := by
  have hr : ∀ l ∈ B, l.length = n := fun l hl => by
    unfold tabQ at h
    rw [Bool.and_eq_true] at h
    have := (List.all_eq_true.1 h.2) l hl
    unfold rowQ at this
    rw [Bool.and_eq_true, decide_eq_true_iff] at this
    omega
  have hl := (tabQ_row h).1
  refine ⟨⟨by omega, fun i => ?_⟩, by omega, fun l hl => by rw [hr l hl]; omega⟩
  rw [List.getD_eq_getElem?_getD]
  cases hi : B[i]? with
  | none => simp
  | some l =>
    obtain ⟨h1, h2⟩ := List.getElem?_eq_some_iff.1 hi
    have := hr l (h2 ▸ List.getElem_mem _)
    simp only [Option.getD_some]; omega
def AR.of (n : Nat) (x y : AV) (B W : List (List Int)) : AR := ⟨n, x, y, B, W⟩
theorem ru_of {n : Nat} {x y : AV} {B W : List (List Int)} (hn : 1 ≤ n ∧ n ≤ 3) (hB : tabQ n B = true) (hW : tabQ n W = true) : (AR.of n x y B W).ru = true := by
  unfold AR.ru AR.of ruQ
  simp only [hB, hW, Bool.and_true, decide_eq_true_eq]
  omega
theorem gd_of {n : Nat} {x y : AV} {B W : List (List Int)} (hn : 1 ≤ n ∧ n ≤ 3) (hB : tabQ n B = true) (hW : tabQ n W = true) {m k lo : Int} (h1 : 1 ≤ m ∧ m ≤ 5) (h2 : lo ≤ k ∧ k ≤ 40) : (AR.of n x y B W).gd m k lo = true := by
  unfold AR.gd AR.rm
  rw [ru_of hn hB hW, decide_eq_true h1, decide_eq_true h2]; rfl
theorem cn_of {n : Nat} {x y : AV} {B W : List (List Int)} (hn : 1 ≤ n ∧ n ≤ 3) (hB : tabQ n B = true) (hW : tabQ n W = true) {M N : Nat} (hM : M + 1 ≤ 5) (hN : N + 1 ≤ 5) : (AR.of n x y B W).cntV (M + 1 : Nat) (N + 1 : Nat) = .tup [G (rowC (stL W (rwL n B (M + 1))) N).sum, G 0] := by
  have g : (AR.of n x y B W).gd (M + 1 : Nat) (N + 1 : Nat) 0 = true := gd_of hn hB hW (by omega) (by omega)
  have s : (AR.of n x y B W).steps (M + 1 : Nat) = stL W (rwL n B (M + 1)) := by
    unfold AR.steps AR.rows AR.of
    rfl
  have okc : okC (stL W (rwL n B (M + 1))) (N + 1) = true := okC_iff.2 fun k hk => rowC_small hn.2 hM (by omega)
  unfold AR.cntV
  rw [if_pos g, s]
  have nt : ((N + 1 : Nat) : Int).toNat = N + 1 := by omega
  rw [nt, okc, if_pos rfl]
  unfold AR.cn
  rw [s, if_neg (by omega), Nat.add_sub_cancel]
structure KnT (J : CallF) : Prop where
  k18 : K18 J
  k19 : K19 J
  k20 : K20 J
  k21 : K21 J
  k22 : ∀ (h : Heap) (x z : AV) (A B : List (List Int)), LT h x A → LT h z B → A.length ≤ 1000000 → B.length ≤ 1000000 → (∀ l ∈ A, l.length ≤ 1000000) → J 22 [x, z] h = some (.bool (decide (A = B)), [], false)
  k23 : ∀ h, J 23 [] h = some (.bool true, [], false)
section
variable {nq m nn : Int} {X Y : List (List Int)}
end
theorem kT49 : KnT T49 where
  k18 := fun h a o => k18 h a o
  k19 := fun x n h h1 h2 => by
    rw [show T49 19 [G x, G n] h = T48 19 [G x, G n] h from by simp (disch := decide) only [T49, addI_ne, addX_ne, addV_ne, addK_ne]]; exact k19_48 x n h h1 h2
  k20 := fun h a o => by
    obtain ⟨v, own, e, l⟩ := k20 h a o
    exact ⟨v, own, by rw [show T49 20 [a.v] h = T23 20 [a.v] h from by simp (disch := decide) only [T24, T25, T26, T27, T28, T29, T30, T31, T32, T33, T34, T35, T36, T37, T38, T39, T40, T41, T42, T43, T44, T45, T46, T47, T48, T49, addI_ne, addX_ne, addV_ne, addK_ne]]; exact e, l⟩
  k21 := fun h a m n o => by
    rw [show T49 21 [a.v, G m, G n] h = T39 21 [a.v, G m, G n] h from by simp (disch := decide) only [T40, T41, T42, T43, T44, T45, T46, T47, T48, T49, addI_ne, addX_ne, addV_ne, addK_ne]]; exact k21 h a m n o
  k22 := fun h x z A B h1 h2 h3 h4 h5 => by
    rw [show T49 22 [x, z] h = T28 22 [x, z] h from by simp (disch := decide) only [T29, T30, T31, T32, T33, T34, T35, T36, T37, T38, T39, T40, T41, T42, T43, T44, T45, T46, T47, T48, T49, addI_ne, addX_ne, addV_ne, addK_ne]]; exact k22 h ⟨A, B, x, z⟩ ⟨h1, h2, h3, h4, h5⟩
  k23 := fun h => by
    rw [show T49 23 [] h = T2 23 [] h from by simp (disch := decide) only [T3, T4, T5, T6, T7, T8, T9, T10, T11, T12, T13, T14, T15, T16, T17, T18, T19, T20, T21, T22, T23, T24, T25, T26, T27, T28, T29, T30, T31, T32, T33, T34, T35, T36, T37, T38, T39, T40, T41, T42, T43, T44, T45, T46, T47, T48, T49, addI_ne, addX_ne, addV_ne, addK_ne]]; exact k23 h
end Go.Proofs.Ytljgfdamdcikgaa.Ev
set_option linter.unusedVariables false
set_option linter.unusedSimpArgs false
namespace Go.Proofs.Ytljgfdamdcikgaa.Ev
open Go Go.AEv
def pf (f : Nat → Nat) (a : Nat) : Nat := ((List.range a).map f).sum
theorem pf_succ (f : Nat → Nat) (a : Nat) : pf f (a + 1) = pf f a + f a := by
  unfold pf
  rw [List.range_succ, List.map_append, List.sum_append]; simp
theorem pf_congr {f g : Nat → Nat} {a : Nat} (h : ∀ i, i < a → f i = g i) : pf f a = pf g a := by
  unfold pf
  rw [List.map_congr_left fun i hi => h i (List.mem_range.1 hi)]
theorem pf_le {f : Nat → Nat} {C : Nat} : ∀ {a : Nat}, (∀ i, i < a → f i ≤ C) → pf f a ≤ a * C
  | 0, _ => by simp [pf]
  | a + 1, h => by
    rw [pf_succ, Nat.add_mul, Nat.one_mul]
    exact Nat.add_le_add (pf_le fun i hi => h i (by omega)) (h a (by omega))
theorem pf_add (f g : Nat → Nat) : ∀ a, pf (fun i => f i + g i) a = pf f a + pf g a
  | 0 => rfl
  | a + 1 => by rw [pf_succ, pf_succ, pf_succ, pf_add f g a]; omega
theorem pf_one (x f : Nat) : ∀ n, pf (fun i => if i = f then x else 0) n = if f < n then x else 0
  | 0 => rfl
  | n + 1 => by
    rw [pf_succ, pf_one x f n]
    split <;> split <;> split <;> omega
theorem pf_zero : ∀ n, pf (fun _ => 0) n = 0
  | 0 => rfl
  | n + 1 => by rw [pf_succ, pf_zero n]
theorem pf_getD (L : List Nat) (f : Nat → Nat) : pf (fun b => f (L.getD b 0)) L.length = (L.map f).sum := by
  unfold pf
  congr 1
  apply List.ext_getElem?
  intro j
  rw [List.getElem?_map, List.getElem?_map]
  by_cases h : j < L.length
  · rw [List.getElem?_range h, List.getElem?_eq_getElem h]
    simp [List.getD_eq_getElem?_getD, List.getElem?_eq_getElem h]
  · rw [List.getElem?_eq_none (by simpa using h), List.getElem?_eq_none (by omega)]; rfl
theorem sum_ind (L : List Nat) (x : Nat) : (L.map fun c => if c = x then 1 else 0).sum = L.count x := by
  induction L with
  | nil => rfl
  | cons a L ih =>
    rw [List.map_cons, List.sum_cons, ih, List.count_cons]
    by_cases h : a = x
    · subst h; simp; omega
    · rw [if_neg h]; simp [h]
theorem pf_count (L : List Nat) (x : Nat) : pf (fun d => if L.getD d 0 = x then 1 else 0) L.length = L.count x := by
  rw [← sum_ind, ← pf_getD L fun c => if c = x then 1 else 0]
theorem sum_all (g : Nat → Nat) {n : Nat} : ∀ (L : List Nat), (∀ c ∈ L, c < n) → (L.map g).sum = pf (fun i => L.count i * g i) n
  | [], _ => by
    rw [pf_congr (g := fun _ => 0) fun i _ => by simp, pf_zero]; rfl
  | c :: L, h => by
    rw [List.map_cons, List.sum_cons, sum_all g L fun d hd => h d (by simp [hd])]
    rw [pf_congr (f := fun i => (c :: L).count i * g i) (g := fun i => L.count i * g i + if i = c then g c else 0) fun i _ => ?_, pf_add, pf_one, if_pos (h c (by simp))]
    · omega
    · rw [List.count_cons]
      by_cases e : i = c
      · subst e; simp [Nat.add_mul]
      · have e' : ¬ c = i := fun x => e x.symm
        rw [if_neg e]; simp [e']
section
variable {S : List (List Nat)}
def eS (S : List (List Nat)) (a b : Nat) : Nat := (S.getD a []).getD b 0
def lS (S : List (List Nat)) (a : Nat) : Nat := (S.getD a []).length
def wc (S : List (List Nat)) (a c d : Nat) : Nat := pf (fun d => if eS S c d = a then 1 else 0) d
def w2 (S : List (List Nat)) (a b : Nat) : Nat := pf (fun b => lS S (eS S a b)) b
def w3 (S : List (List Nat)) (a b : Nat) : Nat := pf (fun b => if eS S a b = a then 1 else 0) b
def w4 (S : List (List Nat)) (a b : Nat) : Nat := pf (fun b => wc S a (eS S a b) (lS S (eS S a b))) b
def W1 (S : List (List Nat)) (a : Nat) : Nat := pf (lS S) a
def W2 (S : List (List Nat)) (a : Nat) : Nat := pf (fun a => w2 S a (lS S a)) a
def W3 (S : List (List Nat)) (a : Nat) : Nat := pf (fun a => w3 S a (lS S a)) a
def W4 (S : List (List Nat)) (a : Nat) : Nat := pf (fun a => w4 S a (lS S a)) a
theorem cnt_1 (S : List (List Nat)) (i : Nat) : cnt S 1 i = lS S i := by
  show ((S.getD i []).map (cnt S 0)).sum = _
  rw [show cnt S 0 = fun _ => 1 from rfl, List.map_const', List.sum_replicate_nat, Nat.mul_one]; rfl
theorem W1_n (S : List (List Nat)) : W1 S S.length = (rowC S 1).sum := by
  unfold W1 rowC
  exact pf_congr fun i _ => (cnt_1 S i).symm
theorem W2_n (S : List (List Nat)) : W2 S S.length = (rowC S 2).sum := by
  unfold W2 rowC
  refine pf_congr fun i _ => ?_
  show pf (fun b => lS S ((S.getD i []).getD b 0)) (S.getD i []).length = ((S.getD i []).map (cnt S 1)).sum
  rw [pf_getD, show cnt S 1 = lS S from funext (cnt_1 S)]
theorem wc_l (S : List (List Nat)) (a c : Nat) : wc S a c (lS S c) = (S.getD c []).count a := pf_count _ _
theorem nd_if {L : List Nat} (h : L.Nodup) (x : Nat) : L.count x = if x ∈ L then 1 else 0 := by
  split
  · next m => exact List.Nodup.count h ▸ by simp [m]
  · next m => exact List.count_eq_zero_of_not_mem m
variable (nd : ∀ i, (S.getD i []).Nodup)
include nd
theorem rP_0 {f : Nat} (hf : f < S.length) : rP S 0 f S.length = (S.getD f []).count f := by
  have : rP S 0 f S.length = pf (rT S 0 f) S.length := rfl
  rw [this, pf_congr (g := fun i => if i = f then (S.getD f []).count f else 0) fun i _ => ?_, pf_one, if_pos hf]
  unfold rT ev
  rw [nd_if (nd f)]
  by_cases e : i = f
  · subst e; simp
  · simp [e]
theorem W3_n : W3 S S.length = rA S 0 S.length := by
  have : rA S 0 S.length = pf (fun f => rP S 0 f S.length) S.length := rfl
  rw [this]
  refine pf_congr fun f hf => ?_
  rw [rP_0 nd hf]
  exact pf_count _ _
omit nd in
theorem ev_1 {f : Nat} (hf : f < S.length) (i : Nat) : ev S f 1 i = (S.getD f []).count i := by
  show pE S (ev S f 0) S.length i = _
  have : pE S (ev S f 0) S.length i = pf (fun i' => ((S.getD i' []).count i) * ev S f 0 i') S.length := rfl
  rw [this, pf_congr (g := fun i' => if i' = f then (S.getD f []).count i else 0) fun i' _ => ?_, pf_one, if_pos hf]
  show _ * (if i' = f then 1 else 0) = _
  by_cases e : i' = f
  · subst e; simp
  · simp [e]
theorem rT_1 {f : Nat} (hf : f < S.length) (i : Nat) : rT S 1 f i = (S.getD f []).count i * (S.getD i []).count f := by
  unfold rT
  rw [ev_1 hf, nd_if (nd i) f]
  split <;> simp
theorem W4_n (lt : ∀ i, ∀ j ∈ S.getD i [], j < S.length) : W4 S S.length = rA S 1 S.length := by
  have : rA S 1 S.length = pf (fun f => pf (rT S 1 f) S.length) S.length := rfl
  rw [this]
  refine pf_congr fun f hf => ?_
  rw [pf_congr fun i _ => rT_1 nd hf i, ← sum_all (fun i => (S.getD i []).count f) _ (lt f)]
  unfold w4 eS
  rw [← pf_getD]
  exact pf_congr fun b _ => wc_l S f _
theorem cnt_le1 (i x : Nat) : (S.getD i []).count x ≤ 1 := by rw [nd_if (nd i)]; split <;> omega
theorem okR_0 (hn : S.length ≤ 1000) : okR S 0 = true := by
  unfold okR
  rw [af_iff]
  intro f _ hf
  unfold gE
  have e : rA S 0 (f + 1) = pf (fun f => rP S 0 f S.length) (f + 1) := rfl
  have : rA S 0 (f + 1) ≤ (f + 1) * 1 := by
    rw [e]
    refine pf_le fun i hi => ?_
    rw [rP_0 nd (by omega)]
    exact cnt_le1 nd _ _
  rw [decide_eq_true (by omega), Bool.and_true]
  rfl
theorem okR_1 (hn : S.length ≤ 1000) : okR S 1 = true := by
  unfold okR
  rw [af_iff]
  intro f _ hf
  unfold gE
  have e : rA S 1 (f + 1) = pf (fun f => pf (rT S 1 f) S.length) (f + 1) := rfl
  have h1 : rA S 1 (f + 1) ≤ (f + 1) * (S.length * 1) := by
    rw [e]
    refine pf_le fun i hi => pf_le fun j _ => ?_
    rw [rT_1 nd (by omega)]
    exact Nat.mul_le_mul (cnt_le1 nd _ _) (cnt_le1 nd _ _)
  have h2 : (f + 1) * (S.length * 1) ≤ 1000 * 1000 := Nat.mul_le_mul (by omega) (by omega)
  rw [decide_eq_true (by omega), Bool.and_true]
  unfold okE
  rw [af_iff]
  intro k _ hk
  obtain rfl : k = 0 := by omega
  rw [decide_eq_true_eq]
  have h3 : (vE S f (0 + 1)).sum = pf (ev S f 1) S.length := rfl
  have h4 : pf (ev S f 1) S.length ≤ S.length * 1 := pf_le fun i _ => by
    rw [ev_1 (by omega)]; exact cnt_le1 nd _ _
  rw [h3]; omega
end
structure BdS (S : List (List Nat)) : Prop where
  l : ∀ a, lS S a ≤ 1000
  n : S.length ≤ 1000
section
variable {S : List (List Nat)} (o : BdS S)
include o
omit o in
theorem wc_le (S : List (List Nat)) (a c d : Nat) : wc S a c d ≤ d * 1 := pf_le fun i _ => by split <;> omega
theorem w2_le (a b : Nat) : w2 S a b ≤ b * 1000 := pf_le fun i _ => o.l _
omit o in
theorem w3_le (S : List (List Nat)) (a b : Nat) : w3 S a b ≤ b * 1 := pf_le fun i _ => by split <;> omega
theorem w4_le (a b : Nat) : w4 S a b ≤ b * 1000 := pf_le fun i _ => Nat.le_trans (wc_le S _ _ _) (by have := o.l (eS S a i); omega)
theorem W1_le (a : Nat) : W1 S a ≤ a * 1000 := pf_le fun i _ => o.l _
theorem W2_le (a : Nat) : W2 S a ≤ a * 1000000 := pf_le fun i _ => Nat.le_trans (w2_le o _ _) (by have := o.l i; omega)
theorem W3_le (a : Nat) : W3 S a ≤ a * 1000 := pf_le fun i _ => Nat.le_trans (w3_le S _ _) (by have := o.l i; omega)
theorem W4_le (a : Nat) : W4 S a ≤ a * 1000000 := pf_le fun i _ => Nat.le_trans (w4_le o _ _) (by have := o.l i; omega)
end
end Go.Proofs.Ytljgfdamdcikgaa.Ev
set_option linter.unusedVariables false
set_option linter.unusedSimpArgs false
namespace Go.Proofs.Ytljgfdamdcikgaa.Ev
open Go Go.AEv
attribute [local simp] evFunc initS evOps_c evTrim_c evSkip_c evExit_c evRet_c evSeq_c evCond_c evBlock_c evDraw_c runOps_n runOps_c exec_n exec_g pure1_c act AOpd.ev T.get T.set T.put evBin evUn forceT_eq forceV_eq forceL_eq evRess evRes one keep runFP_n runFP_c app_none AV.flats AV.flat came_some List.getElem?_cons_zero List.getElem?_cons_succ beqT wrapI idxI tdivI tmodI decT decF ibT ibF inT inF evScope_c if_pos if_neg Cm_some thenW_n thenW_e thenW_r blkW_n blkW_e blkW_r goI kn putAt AV.cells fillA loadA takeA mk Eff.isAll Eff.isNone Eff.commutes Eff.spares okPair apart eqAgg fits LK.fits allEq aveq eqk mmA
section
variable {S : List (List Nat)} {u4 u6 u8 u0 : AV} {k1 k2 k3 k4 : Nat}
theorem RV.lv {h : Heap} {y : AV} {L : List Nat} (r : RV h y (gn L)) (hl : 0 < L.length) : ∃ b v, y = .slice b 0 L.length v ∧ h.get b = .cells 1 v (gn L) := by
  rcases r with ⟨_, e⟩ | ⟨b, v, e, g⟩
  · have : (gn L).length = 0 := by rw [e]; rfl
    rw [gn_len] at this; omega
  · rw [gn_len] at e; exact ⟨b, v, e, g⟩
theorem c8_l0_ok (J : CallF) {H : Heap} {bx : Nat} {rs : List AV} (gx : H.get bx = .cells 1 S.length rs) (lrs : rs.length = S.length) (hr : ∀ k, k < S.length → ∃ y, rs[k]? = some y ∧ RV H y (gn (S.getD k []))) (o : BdS S) {a b c : Nat} (ha : a < S.length) (hc : c < S.length) (h4 : k4 ≤ 1000000000000) :
    Tr tbl J c8_l0 (fun s h => h = H ∧ s.get [true, false, false] = .slice bx 0 S.length S.length ∧ s.get [true, true, true] = u4 ∧ s.get [true, false, false, false] = u6 ∧ s.get [true, true, false, false] = u8 ∧ s.get [true, false, true, false] = u0 ∧ s.get [true, true, true, false] = G k1 ∧ s.get [false, false, false, true] = G k2 ∧ s.get [true, false, false, true] = G k3 ∧ s.get [false, true, false, true] = G k4 ∧ s.get [true, true, false, true] = G a ∧ s.get [false, false, true, true] = G b ∧ s.get [true, false, true, true] = G c ∧ s.get [false, true, true, true] = G 0) (.exit 4)
      (fun s h => h = H ∧ s.get [true, false, false] = .slice bx 0 S.length S.length ∧ s.get [true, true, true] = u4 ∧ s.get [true, false, false, false] = u6 ∧ s.get [true, true, false, false] = u8 ∧ s.get [true, false, true, false] = u0 ∧ s.get [true, true, true, false] = G k1 ∧ s.get [false, false, false, true] = G k2 ∧ s.get [true, false, false, true] = G k3 ∧ s.get [false, true, false, true] = G ((k4 + wc S a c (lS S c) : Nat) : Int) ∧ s.get [true, true, false, true] = G a ∧ s.get [false, false, true, true] = G b ∧ s.get [true, false, true, true] = G c) := by
  have oc := o.l c
  have on := o.n
  obtain ⟨y, ey, rv⟩ := hr c hc
  have ey' := getI ey
  refine Tr.pre (P := (fun s h => h = H ∧ s.get [true, false, false] = .slice bx 0 S.length S.length ∧ s.get [true, true, true] = u4 ∧ s.get [true, false, false, false] = u6 ∧ s.get [true, true, false, false] = u8 ∧ s.get [true, false, true, false] = u0 ∧ s.get [true, true, true, false] = G k1 ∧ s.get [false, false, false, true] = G k2 ∧ s.get [true, false, false, true] = G k3 ∧ s.get [false, true, false, true] = G ((k4 + wc S a c 0 : Nat) : Int) ∧ s.get [true, true, false, true] = G a ∧ s.get [false, false, true, true] = G b ∧ s.get [true, false, true, true] = G c ∧ s.get [false, true, true, true] = G ((0 : Nat) : Int))) (fun s h q => q) ?_
  refine Tr.rounds (e := .exit 4) (P := fun d => (fun s h => h = H ∧ s.get [true, false, false] = .slice bx 0 S.length S.length ∧ s.get [true, true, true] = u4 ∧ s.get [true, false, false, false] = u6 ∧ s.get [true, true, false, false] = u8 ∧ s.get [true, false, true, false] = u0 ∧ s.get [true, true, true, false] = G k1 ∧ s.get [false, false, false, true] = G k2 ∧ s.get [true, false, false, true] = G k3 ∧ s.get [false, true, false, true] = G ((k4 + wc S a c d : Nat) : Int) ∧ s.get [true, true, false, true] = G a ∧ s.get [false, false, true, true] = G b ∧ s.get [true, false, true, true] = G c ∧ s.get [false, true, true, true] = G d)) (M := lS S c) (fun d hd => ?_) ?_ (by simp) 0 (by omega)
  · obtain ⟨by', vy, rfl, gy⟩ : ∃ b v, y = .slice b 0 (lS S c) v ∧ H.get b = .cells 1 v (gn (S.getD c [])) := rv.lv (Nat.lt_of_le_of_lt (Nat.zero_le d) hd)
    have e1 : (gn (S.getD c []))[d]? = some (G (eS S c d)) := gn_at hd
    have e1' := getI e1
    have lg : (gn (S.getD c [])).length = lS S c := gn_len _
    have hw := wc_le S a c d
    have ws : wc S a c (d + 1) = wc S a c d + (if eS S c d = a then 1 else 0) := pf_succ _ _
    rw [ws]
    clear ws hr o rv
    generalize gn (S.getD c []) = cs at *
    generalize wc S a c d = w at *
    generalize eS S c d = e at *
    generalize lS S c = l at *
    generalize S.length = n at *
    by_cases he : e = a
    · rw [if_pos he]
      refine Tr.w fun s1 H1 hp _ kR => W.trim ?_
      obtain ⟨rfl, q⟩ := hp
      refine W.assoc ?_
      refine W.seq (W.chunk ?_)
      simp (disch := first|omega|exact zE rfl|exact zO|exact zL rfl) [c8_o24, zG, q, gx, ey, ey']
      refine W.seq (W.chunk ?_)
      simp (disch := first|omega|exact zE rfl|exact zO|exact zL rfl) [zG, q]
      refine W.seq (W.block ?_)
      refine W.seq (W.chunk ?_)
      simp (disch := first|omega|exact zE rfl|exact zO|exact zL rfl) [c8_o25, zG, q, gx, ey, ey', gy, e1, e1']
      refine W.chunk ?_
      simp (disch := first|omega|exact zE rfl|exact zO|exact zL rfl) [c8_o26, zG, q]
      refine W.chunk ?_
      simp (disch := first|omega|exact zE rfl|exact zO|exact zL rfl) [c8_o27, zG, q]
      exact kR _ _ (by simp [T.get, q]; omega)
    · rw [if_neg he]
      refine Tr.w fun s1 H1 hp _ kR => W.trim ?_
      obtain ⟨rfl, q⟩ := hp
      refine W.assoc ?_
      refine W.seq (W.chunk ?_)
      simp (disch := first|omega|exact zE rfl|exact zO|exact zL rfl) [c8_o24, zG, q, gx, ey, ey']
      refine W.seq (W.chunk ?_)
      simp (disch := first|omega|exact zE rfl|exact zO|exact zL rfl) [zG, q]
      refine W.seq (W.block ?_)
      refine W.seq (W.chunk ?_)
      simp (disch := first|omega|exact zE rfl|exact zO|exact zL rfl) [c8_o25, zG, q, gx, ey, ey', gy, e1, e1']
      refine W.chunk ?_
      simp (disch := first|omega|exact zE rfl|exact zO|exact zL rfl) [c8_o26, zG, q]
      refine W.chunk ?_
      simp (disch := first|omega|exact zE rfl|exact zO|exact zL rfl) [c8_o27, zG, q]
      exact kR _ _ (by simp [T.get, q])
  · have sy : (y = .nils ∧ lS S c = 0) ∨ ∃ b v, y = .slice b 0 (lS S c) v := by
      have sy := rv.sl
      rw [gn_len] at sy; exact sy
    clear hr o rv
    generalize wc S a c (lS S c) = w at *
    generalize lS S c = l at *
    generalize S.length = n at *
    rcases sy with ⟨rfl, rfl⟩ | ⟨b', v, rfl⟩
    all_goals
      refine Tr.w fun s1 H1 hp _ kR => W.trim ?_
      obtain ⟨rfl, q⟩ := hp
      refine W.assoc ?_
      refine W.seq (W.chunk ?_)
      simp (disch := first|omega|exact zE rfl|exact zO|exact zL rfl) [c8_o24, zG, q, gx, ey, ey']
      refine W.seq (W.chunk ?_)
      simp (disch := first|omega|exact zE rfl|exact zO|exact zL rfl) [zG, q]
      exact kR _ _ (by simp [T.get, q])
theorem c8_l1_ok (J : CallF) {H : Heap} {bx : Nat} {rs : List AV} (gx : H.get bx = .cells 1 S.length rs) (lrs : rs.length = S.length) (hr : ∀ k, k < S.length → ∃ y, rs[k]? = some y ∧ RV H y (gn (S.getD k []))) (o : BdS S) (lt : ∀ i, ∀ j ∈ S.getD i [], j < S.length) {a : Nat} (ha : a < S.length) (h1 : k1 ≤ 100000000000) (h2 : k2 ≤ 100000000000) (h3 : k3 ≤ 100000000000) (h4 : k4 ≤ 100000000000) :
    Tr tbl J c8_l1 (fun s h => h = H ∧ s.get [true, false, false] = .slice bx 0 S.length S.length ∧ s.get [true, true, true] = u4 ∧ s.get [true, false, false, false] = u6 ∧ s.get [true, true, false, false] = u8 ∧ s.get [true, false, true, false] = u0 ∧ s.get [true, true, true, false] = G k1 ∧ s.get [false, false, false, true] = G k2 ∧ s.get [true, false, false, true] = G k3 ∧ s.get [false, true, false, true] = G k4 ∧ s.get [true, true, false, true] = G a ∧ s.get [false, false, true, true] = G 0) (.exit 2)
      (fun s h => h = H ∧ s.get [true, false, false] = .slice bx 0 S.length S.length ∧ s.get [true, true, true] = u4 ∧ s.get [true, false, false, false] = u6 ∧ s.get [true, true, false, false] = u8 ∧ s.get [true, false, true, false] = u0 ∧ s.get [true, true, true, false] = G ((k1 + lS S a : Nat) : Int) ∧ s.get [false, false, false, true] = G ((k2 + w2 S a (lS S a) : Nat) : Int) ∧ s.get [true, false, false, true] = G ((k3 + w3 S a (lS S a) : Nat) : Int) ∧ s.get [false, true, false, true] = G ((k4 + w4 S a (lS S a) : Nat) : Int) ∧ s.get [true, true, false, true] = G a) := by
  have oa := o.l a
  have on := o.n
  obtain ⟨y, ey, rv⟩ := hr a ha
  have ey' := getI ey
  refine Tr.pre (P := (fun s h => h = H ∧ s.get [true, false, false] = .slice bx 0 S.length S.length ∧ s.get [true, true, true] = u4 ∧ s.get [true, false, false, false] = u6 ∧ s.get [true, true, false, false] = u8 ∧ s.get [true, false, true, false] = u0 ∧ s.get [true, true, true, false] = G ((k1 + 0 : Nat) : Int) ∧ s.get [false, false, false, true] = G ((k2 + w2 S a 0 : Nat) : Int) ∧ s.get [true, false, false, true] = G ((k3 + w3 S a 0 : Nat) : Int) ∧ s.get [false, true, false, true] = G ((k4 + w4 S a 0 : Nat) : Int) ∧ s.get [true, true, false, true] = G a ∧ s.get [false, false, true, true] = G ((0 : Nat) : Int))) (fun s h q => q) ?_
  refine Tr.rounds (e := .exit 2) (P := fun b => (fun s h => h = H ∧ s.get [true, false, false] = .slice bx 0 S.length S.length ∧ s.get [true, true, true] = u4 ∧ s.get [true, false, false, false] = u6 ∧ s.get [true, true, false, false] = u8 ∧ s.get [true, false, true, false] = u0 ∧ s.get [true, true, true, false] = G ((k1 + b : Nat) : Int) ∧ s.get [false, false, false, true] = G ((k2 + w2 S a b : Nat) : Int) ∧ s.get [true, false, false, true] = G ((k3 + w3 S a b : Nat) : Int) ∧ s.get [false, true, false, true] = G ((k4 + w4 S a b : Nat) : Int) ∧ s.get [true, true, false, true] = G a ∧ s.get [false, false, true, true] = G b)) (M := lS S a) (fun b hb => ?_) ?_ (by simp) 0 (by omega)
  · obtain ⟨by', vy, rfl, gy⟩ : ∃ b v, y = .slice b 0 (lS S a) v ∧ H.get b = .cells 1 v (gn (S.getD a [])) := rv.lv (Nat.lt_of_le_of_lt (Nat.zero_le b) hb)
    have e1 : (gn (S.getD a []))[b]? = some (G (eS S a b)) := gn_at hb
    have e1' := getI e1
    have lg : (gn (S.getD a [])).length = lS S a := gn_len _
    have he : eS S a b < S.length := lt a _ (by
      unfold eS
      rw [List.getD_eq_getElem?_getD (l := S.getD a []), List.getElem?_eq_getElem hb]; exact List.getElem_mem _)
    have b2 := w2_le o a b
    have b3 := w3_le S a b
    have b4 := w4_le o a b
    have s2 : w2 S a (b + 1) = w2 S a b + lS S (eS S a b) := pf_succ _ _
    have s3 : w3 S a (b + 1) = w3 S a b + (if eS S a b = a then 1 else 0) := pf_succ _ _
    have s4 : w4 S a (b + 1) = w4 S a b + wc S a (eS S a b) (lS S (eS S a b)) := pf_succ _ _
    rw [s2, s3, s4]
    clear s2 s3 s4
    obtain ⟨yc, ec, rc⟩ := hr _ he
    have ec' := getI ec
    have sy : (yc = .nils ∧ lS S (eS S a b) = 0) ∨ ∃ b' v, yc = .slice b' 0 (lS S (eS S a b)) v := by
      have sy := rc.sl
      rw [gn_len] at sy; exact sy
    have l0 := c8_l0_ok (u4 := u4) (u6 := u6) (u8 := u8) (u0 := u0) (k1 := k1 + b + 1) (k2 := k2 + w2 S a b + lS S (eS S a b)) (k3 := k3 + w3 S a b) (k4 := k4 + w4 S a b) (b := b) J gx lrs hr o ha he (by omega)
    have oc := o.l (eS S a b)
    have cb := wc_le S a (eS S a b) (lS S (eS S a b))
    clear hr o rv rc lt
    generalize gn (S.getD a []) = cs at *
    generalize wc S a (eS S a b) (lS S (eS S a b)) = wv at *
    generalize w2 S a b = x2 at *
    generalize w3 S a b = x3 at *
    generalize w4 S a b = x4 at *
    generalize lS S (eS S a b) = lc at *
    generalize eS S a b = c at *
    generalize lS S a = l at *
    generalize S.length = n at *
    by_cases hc : c = a
    · rw [if_pos hc]
      rcases sy with ⟨rfl, rfl⟩ | ⟨b', v, rfl⟩
      all_goals
        refine Tr.w fun s1 H1 hp _ kR => W.trim ?_
        obtain ⟨rfl, q⟩ := hp
        refine W.assoc ?_
        refine W.seq (W.chunk ?_)
        simp (disch := first|omega|exact zE rfl|exact zO|exact zL rfl) [c8_o17, zG, q, gx, ey, ey']
        refine W.seq (W.chunk ?_)
        simp (disch := first|omega|exact zE rfl|exact zO|exact zL rfl) [zG, q]
        refine W.seq (W.block ?_)
        refine W.seq (W.chunk ?_)
        simp (disch := first|omega|exact zE rfl|exact zO|exact zL rfl) [c8_o18, zG, q, gx, ey, ey', gy, e1, e1']
        refine W.assoc ?_
        refine W.seq (W.chunk ?_)
        simp (disch := first|omega|exact zE rfl|exact zO|exact zL rfl) [c8_o19, zG, q]
        refine W.seq (W.chunk ?_)
        simp (disch := first|omega|exact zE rfl|exact zO|exact zL rfl) [c8_o20, zG, q]
        refine W.seq (W.chunk ?_)
        simp (disch := first|omega|exact zE rfl|exact zO|exact zL rfl) [c8_o21, zG, q]
        refine W.seq (W.chunk ?_)
        simp (disch := first|omega|exact zE rfl|exact zO|exact zL rfl) [c8_o22, zG, q, gx, ec, ec']
        refine W.assoc ?_
        refine W.seq (W.chunk ?_)
        simp (disch := first|omega|exact zE rfl|exact zO|exact zL rfl) [c8_o23, zG, q]
        refine W.seq (W.block ?_)
        refine W.use (l0) (by simp (disch := first|omega|exact zE rfl|exact zO|exact zL rfl) [zG, q]) fun s1 H1 hp => ?_
        obtain ⟨rfl, q⟩ := hp
        try simp only [zW, if_true]
        refine W.seq (W.chunk ?_)
        simp (disch := first|omega|exact zE rfl|exact zO|exact zL rfl) [c8_o28, zG, q]
        refine W.chunk ?_
        simp (disch := first|omega|exact zE rfl|exact zO|exact zL rfl) [c8_o29, zG, q]
        refine W.chunk ?_
        simp (disch := first|omega|exact zE rfl|exact zO|exact zL rfl) [c8_o30, zG, q]
        exact kR _ _ (by simp [T.get, q] <;> omega)
    · rw [if_neg hc]
      rcases sy with ⟨rfl, rfl⟩ | ⟨b', v, rfl⟩
      all_goals
        refine Tr.w fun s1 H1 hp _ kR => W.trim ?_
        obtain ⟨rfl, q⟩ := hp
        refine W.assoc ?_
        refine W.seq (W.chunk ?_)
        simp (disch := first|omega|exact zE rfl|exact zO|exact zL rfl) [c8_o17, zG, q, gx, ey, ey']
        refine W.seq (W.chunk ?_)
        simp (disch := first|omega|exact zE rfl|exact zO|exact zL rfl) [zG, q]
        refine W.seq (W.block ?_)
        refine W.seq (W.chunk ?_)
        simp (disch := first|omega|exact zE rfl|exact zO|exact zL rfl) [c8_o18, zG, q, gx, ey, ey', gy, e1, e1']
        refine W.assoc ?_
        refine W.seq (W.chunk ?_)
        simp (disch := first|omega|exact zE rfl|exact zO|exact zL rfl) [c8_o19, zG, q]
        refine W.seq (W.chunk ?_)
        simp (disch := first|omega|exact zE rfl|exact zO|exact zL rfl) [c8_o20, zG, q]
        refine W.seq (W.chunk ?_)
        simp (disch := first|omega|exact zE rfl|exact zO|exact zL rfl) [c8_o21, zG, q]
        refine W.seq (W.chunk ?_)
        simp (disch := first|omega|exact zE rfl|exact zO|exact zL rfl) [c8_o22, zG, q, gx, ec, ec']
        refine W.assoc ?_
        refine W.seq (W.chunk ?_)
        simp (disch := first|omega|exact zE rfl|exact zO|exact zL rfl) [c8_o23, zG, q]
        refine W.seq (W.block ?_)
        refine W.use (l0) (by simp (disch := first|omega|exact zE rfl|exact zO|exact zL rfl) [zG, q]) fun s1 H1 hp => ?_
        obtain ⟨rfl, q⟩ := hp
        try simp only [zW, if_true]
        refine W.seq (W.chunk ?_)
        simp (disch := first|omega|exact zE rfl|exact zO|exact zL rfl) [c8_o28, zG, q]
        refine W.chunk ?_
        simp (disch := first|omega|exact zE rfl|exact zO|exact zL rfl) [c8_o29, zG, q]
        refine W.chunk ?_
        simp (disch := first|omega|exact zE rfl|exact zO|exact zL rfl) [c8_o30, zG, q]
        exact kR _ _ (by simp [T.get, q] <;> omega)
  · have sy : (y = .nils ∧ lS S a = 0) ∨ ∃ b v, y = .slice b 0 (lS S a) v := by
      have sy := rv.sl
      rw [gn_len] at sy; exact sy
    clear hr o rv lt
    generalize w2 S a (lS S a) = x2 at *
    generalize w3 S a (lS S a) = x3 at *
    generalize w4 S a (lS S a) = x4 at *
    generalize lS S a = l at *
    generalize S.length = n at *
    rcases sy with ⟨rfl, rfl⟩ | ⟨b', v, rfl⟩
    all_goals
      refine Tr.w fun s1 H1 hp _ kR => W.trim ?_
      obtain ⟨rfl, q⟩ := hp
      refine W.assoc ?_
      refine W.seq (W.chunk ?_)
      simp (disch := first|omega|exact zE rfl|exact zO|exact zL rfl) [c8_o17, zG, q, gx, ey, ey']
      refine W.seq (W.chunk ?_)
      simp (disch := first|omega|exact zE rfl|exact zO|exact zL rfl) [zG, q]
      exact kR _ _ (by simp [T.get, q])
theorem c8_l2_ok (J : CallF) {H : Heap} {x : AV} (ln : LN H x S) (o : BdS S) (lt : ∀ i, ∀ j ∈ S.getD i [], j < S.length) :
    Tr tbl J c8_l2 (fun s h => h = H ∧ s.get [true, false, false] = x ∧ s.get [true, true, true] = u4 ∧ s.get [true, false, false, false] = u6 ∧ s.get [true, true, false, false] = u8 ∧ s.get [true, false, true, false] = u0 ∧ s.get [true, true, true, false] = G 0 ∧ s.get [false, false, false, true] = G 0 ∧ s.get [true, false, false, true] = G 0 ∧ s.get [false, true, false, true] = G 0 ∧ s.get [true, true, false, true] = G 0) (.exit 0)
      (fun s h => h = H ∧ s.get [true, true, true] = u4 ∧ s.get [true, false, false, false] = u6 ∧ s.get [true, true, false, false] = u8 ∧ s.get [true, false, true, false] = u0 ∧ s.get [true, true, true, false] = G (W1 S S.length) ∧ s.get [false, false, false, true] = G (W2 S S.length) ∧ s.get [true, false, false, true] = G (W3 S S.length) ∧ s.get [false, true, false, true] = G (W4 S S.length)) := by
  have on := o.n
  refine Tr.pre (P := (fun s h => h = H ∧ s.get [true, false, false] = x ∧ s.get [true, true, true] = u4 ∧ s.get [true, false, false, false] = u6 ∧ s.get [true, true, false, false] = u8 ∧ s.get [true, false, true, false] = u0 ∧ s.get [true, true, true, false] = G (W1 S 0) ∧ s.get [false, false, false, true] = G (W2 S 0) ∧ s.get [true, false, false, true] = G (W3 S 0) ∧ s.get [false, true, false, true] = G (W4 S 0) ∧ s.get [true, true, false, true] = G ((0 : Nat) : Int))) (fun s h q => q) ?_
  refine Tr.rounds (e := .exit 0) (P := fun a => (fun s h => h = H ∧ s.get [true, false, false] = x ∧ s.get [true, true, true] = u4 ∧ s.get [true, false, false, false] = u6 ∧ s.get [true, true, false, false] = u8 ∧ s.get [true, false, true, false] = u0 ∧ s.get [true, true, true, false] = G (W1 S a) ∧ s.get [false, false, false, true] = G (W2 S a) ∧ s.get [true, false, false, true] = G (W3 S a) ∧ s.get [false, true, false, true] = G (W4 S a) ∧ s.get [true, true, false, true] = G a)) (M := S.length) (fun a ha => ?_) ?_ (by simp) 0 (by omega)
  · obtain ⟨rs, lv, lrs, hr⟩ := ln
    obtain ⟨bx, rfl, gx⟩ := lv.resolve_left (fun e => by omega)
    have b1 := W1_le o a
    have b2 := W2_le o a
    have b3 := W3_le o a
    have b4 := W4_le o a
    have s1' : W1 S (a + 1) = W1 S a + lS S a := pf_succ _ _
    have s2 : W2 S (a + 1) = W2 S a + w2 S a (lS S a) := pf_succ _ _
    have s3 : W3 S (a + 1) = W3 S a + w3 S a (lS S a) := pf_succ _ _
    have s4 : W4 S (a + 1) = W4 S a + w4 S a (lS S a) := pf_succ _ _
    rw [s1', s2, s3, s4]
    clear s1' s2 s3 s4
    have l1 := c8_l1_ok (u4 := u4) (u6 := u6) (u8 := u8) (u0 := u0) (k1 := W1 S a) (k2 := W2 S a) (k3 := W3 S a) (k4 := W4 S a) J gx lrs hr o lt ha (by omega) (by omega) (by omega) (by omega)
    clear hr o lt lv
    generalize w2 S a (lS S a) = x2 at *
    generalize w3 S a (lS S a) = x3 at *
    generalize w4 S a (lS S a) = x4 at *
    generalize lS S a = l at *
    generalize W1 S a = y1 at *
    generalize W2 S a = y2 at *
    generalize W3 S a = y3 at *
    generalize W4 S a = y4 at *
    generalize S.length = n at *
    refine Tr.w fun s1 H1 hp _ kR => W.trim ?_
    obtain ⟨rfl, q⟩ := hp
    refine W.assoc ?_
    refine W.seq (W.chunk ?_)
    simp (disch := first|omega|exact zE rfl|exact zO|exact zL rfl) [c8_o15, zG, q]
    refine W.seq (W.chunk ?_)
    simp (disch := first|omega|exact zE rfl|exact zO|exact zL rfl) [zG, q]
    refine W.seq (W.block ?_)
    refine W.seq (W.chunk ?_)
    simp (disch := first|omega|exact zE rfl|exact zO|exact zL rfl) [c8_o16, zG, q]
    refine W.block ?_
    refine W.use (l1) (by simp (disch := first|omega|exact zE rfl|exact zO|exact zL rfl) [zG, q]) fun s1 H1 hp => ?_
    obtain ⟨rfl, q⟩ := hp
    try simp only [zW, if_true]
    refine W.chunk ?_
    simp (disch := first|omega|exact zE rfl|exact zO|exact zL rfl) [c8_o31, zG, q]
    exact kR _ _ (by simp [T.get, q])
  · obtain ⟨rs, lv, lrs, hr⟩ := ln
    clear hr o lt
    generalize W1 S S.length = y1 at *
    generalize W2 S S.length = y2 at *
    generalize W3 S S.length = y3 at *
    generalize W4 S S.length = y4 at *
    generalize S.length = n at *
    rcases lv with ⟨rfl, hn⟩ | ⟨b, rfl, gx⟩
    all_goals
      refine Tr.w fun s1 H1 hp _ kR => W.trim ?_
      obtain ⟨rfl, q⟩ := hp
      refine W.assoc ?_
      refine W.seq (W.chunk ?_)
      simp (disch := first|omega|exact zE rfl|exact zO|exact zL rfl) [c8_o15, zG, q]
      refine W.seq (W.chunk ?_)
      simp (disch := first|omega|exact zE rfl|exact zO|exact zL rfl) [zG, q]
      exact kR _ _ (by simp [T.get, q])
end
theorem rg_of {n : Nat} {x y : AV} {B W : List (List Int)} (hn : 1 ≤ n ∧ n ≤ 3) (hB : tabQ n B = true) (hW : tabQ n W = true) {M N : Nat} (hM : M + 1 ≤ 5) (hN : N + 1 ≤ 5) (hk : okR (stL W (rwL n B (M + 1))) N = true) : (AR.of n x y B W).rngV (M + 1 : Nat) (N + 1 : Nat) = .tup [G (rA (stL W (rwL n B (M + 1))) N (stL W (rwL n B (M + 1))).length), G 0] := by
  have g : (AR.of n x y B W).gd (M + 1 : Nat) (N + 1 : Nat) 1 = true := gd_of hn hB hW (by omega) (by omega)
  have s : (AR.of n x y B W).steps (M + 1 : Nat) = stL W (rwL n B (M + 1)) := by
    unfold AR.steps AR.rows AR.of
    rfl
  have nt : ((N + 1 : Nat) : Int).toNat = N + 1 := by omega
  unfold AR.rngV AR.okr AR.rn
  rw [if_pos g, nt, s, Nat.add_sub_cancel, hk, if_pos rfl]
theorem cn0_of {n : Nat} {x y : AV} {B W : List (List Int)} (hn : 1 ≤ n ∧ n ≤ 3) (hB : tabQ n B = true) (hW : tabQ n W = true) {M : Nat} (hM : M + 1 ≤ 5) : (AR.of n x y B W).cntV (M + 1 : Nat) 0 = .tup [G 1, G 0] := by
  have g : (AR.of n x y B W).gd (M + 1 : Nat) 0 0 = true := gd_of hn hB hW (by omega) (by omega)
  unfold AR.cntV
  rw [if_pos g]
  rfl
theorem st_nd (W : List (List Int)) (R : List (List Nat)) (i : Nat) : ((stL W R).getD i []).Nodup := by
  rw [List.getD_eq_getElem?_getD]
  unfold stL
  rw [List.getElem?_map]
  cases R[i]? with
  | none => exact List.nodup_nil
  | some r => exact List.Nodup.sublist List.filter_sublist List.nodup_range
theorem row0_sum (S : List (List Nat)) : (rowC S 0).sum = S.length := by
  unfold rowC
  rw [show cnt S 0 = fun _ => 1 from rfl, List.map_const', List.sum_replicate_nat, List.length_range, Nat.mul_one]
structure KnW (J : CallF) : Prop where
  k18 : K18 J
  k19 : K19 J
  k21 : K21 J
  k25 : K25 J
  k26 : K26 J
  k41 : K41 J
  k23 : ∀ h, J 23 [] h = some (.bool true, [], false)
section
variable {nq m : Int} {X Y : List (List Int)}
theorem c8_ok (J : CallF) (K : KnW J) (hJ : ∀ a h, J 8 a h = none) (h : Heap) {x y : AV} (mx : MR h x X) (my : MR h y Y) : CallsTo tbl J 8 [.agg [G nq, x, y], G m] h (.bool true, [], false) := by
  refine Tr.fnv (cf := c8) (e := .ret) (s := T.set (T.set .leaf [] (.agg [G nq, x, y])) [false] (G m)) (by decide) rfl (hJ _ _) rfl rfl rfl (by simp) ?_
  refine Tr.post (Q := (fun s h => s.get [true, false] = .bool true)) (fun s h q => by simp [c8, q]) ?_
  have mx0 : MR (frameOf h) x X := mx.lo []
  have my0 : MR (frameOf h) y Y := my.lo []
  generalize frameOf h = H0 at *
  obtain ⟨Ha, ha⟩ : ∃ H, H0.plus [.cells 0 3 [G nq, x, y]] = H := ⟨_, rfl⟩
  have ka : Kp (fun _ => False) H0 Ha := by rw [← ha]; exact Kp.plus _ _
  have gS : Ha.get H0.size = .cells 0 3 [G nq, x, y] := by rw [← ha]; exact plus_at0 _ _ _ _ rfl
  obtain ⟨v, own1, e18, n, x1, y1, B, Wt, rfl, hn, ⟨t1, hB⟩, t2, hW⟩ := K.k18 Ha ⟨nq, x, y, X, Y⟩ ⟨mx0.kp ka, my0.kp ka⟩
  simp only at e18
  obtain ⟨Hb, hb⟩ : ∃ H, Ha.plus own1 = H := ⟨_, rfl⟩
  rw [hb] at t1 t2
  obtain ⟨Hc, hc⟩ : ∃ H, Hb.plus [.cells 0 3 [G n, x1, y1]] = H := ⟨_, rfl⟩
  have kc : Kp (fun _ => False) Hb Hc := by rw [← hc]; exact Kp.plus _ _
  have gc : Hc.get Hb.size = .cells 0 3 [G n, x1, y1] := by rw [← hc]; exact plus_at0 _ _ _ _ rfl
  obtain ⟨sB, sB1, sB2⟩ := tabQ_small hB hn.2
  obtain ⟨sW, sW1, sW2⟩ := tabQ_small hW hn.2
  have oa : OkR (AR.of n x1 y1 B Wt) Hc := ⟨(t1.kp kc).mr, (t2.kp kc).mr, sB, sW⟩
  have m1 := mdZ_bd m (n := 4) (by omega)
  have e19 := K.k19 m 4 Hc (by omega) (by omega)
  generalize mdZ m 4 = zm at *
  obtain ⟨M, hM⟩ : ∃ M : Nat, zm = M := ⟨zm.toNat, by omega⟩
  subst hM
  have rm : (AR.of n x1 y1 B Wt).rm (M + 1 : Nat) = true := by
    unfold AR.rm
    rw [ru_of hn hB hW, decide_eq_true (by omega)]; rfl
  have sS : (AR.of n x1 y1 B Wt).steps (M + 1 : Nat) = stL Wt (rwL n B (M + 1)) := by
    unfold AR.steps AR.rows AR.of
    rfl
  obtain ⟨os, s243, sr⟩ := AR.steps_ok rm
  have c0 := cn0_of (x := x1) (y := y1) (M := M) hn hB hW (by omega)
  have c1 : (AR.of n x1 y1 B Wt).cntV (M + 1 : Nat) 1 = _ := cn_of (N := 0) hn hB hW (by omega) (by omega)
  have c2 : (AR.of n x1 y1 B Wt).cntV (M + 1 : Nat) 2 = _ := cn_of (N := 1) hn hB hW (by omega) (by omega)
  have c3 : (AR.of n x1 y1 B Wt).cntV (M + 1 : Nat) 3 = _ := cn_of (N := 2) hn hB hW (by omega) (by omega)
  have nd := st_nd Wt (rwL n B (M + 1))
  have r1 := fun k => rg_of (x := x1) (y := y1) (M := M) (N := 0) hn hB hW (by omega) (by omega) k
  have r2 := fun k => rg_of (x := x1) (y := y1) (M := M) (N := 1) hn hB hW (by omega) (by omega) k
  rw [sS] at os s243 sr
  have bd : BdS (stL Wt (rwL n B (M + 1))) := ⟨os.len, os.n⟩
  obtain ⟨v5, own5, e25, p25⟩ := K.k25 Hc _ (M + 1 : Nat) oa
  obtain ⟨x5, rfl, rv5, _⟩ := p25.2 rm
  obtain ⟨Hd, hd⟩ : ∃ H, Hc.plus own5 = H := ⟨_, rfl⟩
  have kd : Kp (fun _ => False) Hc Hd := by rw [← hd]; exact Kp.plus _ _
  obtain ⟨v6, own6, e26, p26⟩ := K.k26 Hd _ (M + 1 : Nat) (oa.kp kd)
  obtain ⟨x6, rfl, lt6, _⟩ := p26.2 rm
  obtain ⟨He, he⟩ : ∃ H, Hd.plus own6 = H := ⟨_, rfl⟩
  have ke : Kp (fun _ => False) Hd He := by rw [← he]; exact Kp.plus _ _
  rw [he] at lt6
  simp only at lt6 rv5
  rw [sS] at lt6
  have sx5 := rv5.sl
  rw [wsL_len, ← sr] at sx5
  have gcd := kd.at gc (by simp) id
  have gce := ke.at gcd (by simp) id
  have oe := (oa.kp kd).kp ke
  have e0 := K.k21 He _ (M + 1 : Nat) 0 oe
  have e1 := K.k21 He _ (M + 1 : Nat) 1 oe
  have e2 := K.k21 He _ (M + 1 : Nat) 2 oe
  have e3 := K.k21 He _ (M + 1 : Nat) 3 oe
  have f1 : J 41 _ He = _ := K.k41 He _ (M + 1 : Nat) 1 oe
  have f2 : J 41 _ He = _ := K.k41 He _ (M + 1 : Nat) 2 oe
  have r1 : (AR.of n x1 y1 B Wt).rngV (M + 1 : Nat) 1 = _ := r1 (okR_0 nd os.n)
  have r2 : (AR.of n x1 y1 B Wt).rngV (M + 1 : Nat) 2 = _ := r2 (okR_1 nd os.n)
  rw [c0] at e0
  rw [c1, row0_sum] at e1
  rw [c2, ← W1_n] at e2
  rw [c3, ← W2_n] at e3
  rw [r1, ← W3_n nd] at f1
  rw [r2, ← W4_n nd os.lt] at f2
  have k23 := K.k23
  have ln := lt6.ln
  have va : (AR.of n x1 y1 B Wt).v = .agg [G n, x1, y1] := rfl
  rw [va] at e0 e1 e2 e3 f1 f2 e25 e26
  generalize stL Wt (rwL n B (M + 1)) = S at *
  have l2 := c8_l2_ok (S := S) (u4 := G (W1 S S.length)) (u6 := G (W2 S S.length)) (u8 := G (W3 S S.length)) (u0 := G (W4 S S.length)) J ln bd os.lt
  obtain ⟨rs, sx6, _⟩ := ln
  have sx6 : (x6 = .nils ∧ S.length = 0) ∨ ∃ b, x6 = .slice b 0 S.length S.length := by
    rcases sx6 with h | ⟨b, h, _⟩
    · exact .inl h
    · exact .inr ⟨b, h⟩
  have a1 : ((M + 1 : Nat) : Int) = 1 + (M : Int) := by omega
  rw [a1] at e0 e1 e2 e3 f1 f2 e25 e26
  clear K mx my mx0 my0 t1 t2 oa oe ka kc kd ke va a1 sB sB1 sB2 sW sW1 sW2 c0 c1 c2 c3 r1 r2 rm sS os sr bd p25 p26 rv5 lt6 nd hB hW
  generalize W1 S S.length = z1 at *
  generalize W2 S S.length = z2 at *
  generalize W3 S S.length = z3 at *
  generalize W4 S S.length = z4 at *
  generalize S.length = nS at *
  rcases sx5 with ⟨rfl, h5⟩ | ⟨b5, v5, rfl⟩ <;> rcases sx6 with ⟨rfl, h6⟩ | ⟨b6, rfl⟩
  all_goals
    refine Tr.w fun s1 H1 hp _ kR => ?_
    obtain ⟨rfl, rfl⟩ := hp
    have q : True := trivial
    refine W.seq (W.chunk ?_)
    simp (disch := first|omega|exact zE rfl|exact zO|exact zL rfl) [c8_o0, zG, q, ha]
    refine W.seq (W.chunk ?_)
    simp (disch := first|omega|exact zE rfl|exact zO|exact zL rfl) [c8_o1, zG, q, gS, e18, app_if, app_if', hb, hc]
    refine W.seq (W.chunk ?_)
    simp (disch := first|omega|exact zE rfl|exact zO|exact zL rfl) [c8_o2, zG, q, e19]
    refine W.seq (W.chunk ?_)
    simp (disch := first|omega|exact zE rfl|exact zO|exact zL rfl) [c8_o3, zG, q, gc, e25, app_if, app_if', hd]
    refine W.seq (W.chunk ?_)
    simp (disch := first|omega|exact zE rfl|exact zO|exact zL rfl) [c8_o4, zG, q, gcd, e26, app_if, app_if', he]
    refine W.seq (W.chunk ?_)
    simp (disch := first|omega|exact zE rfl|exact zO|exact zL rfl) [c8_o5, zG, q, gce, e0]
    refine W.seq (W.chunk ?_)
    simp (disch := first|omega|exact zE rfl|exact zO|exact zL rfl) [c8_o6, zG, q, gce, e1]
    refine W.seq (W.chunk ?_)
    simp (disch := first|omega|exact zE rfl|exact zO|exact zL rfl) [c8_o7, zG, q, gce, e2]
    refine W.seq (W.chunk ?_)
    simp (disch := first|omega|exact zE rfl|exact zO|exact zL rfl) [c8_o8, zG, q, gce, e3]
    refine W.seq (W.chunk ?_)
    simp (disch := first|omega|exact zE rfl|exact zO|exact zL rfl) [c8_o9, zG, q, gce, f1]
    refine W.seq (W.chunk ?_)
    simp (disch := first|omega|exact zE rfl|exact zO|exact zL rfl) [c8_o10, zG, q, gce, f2]
    refine W.assoc ?_
    refine W.seq (W.chunk ?_)
    simp (disch := first|omega|exact zE rfl|exact zO|exact zL rfl) [c8_o11, zG, q]
    refine W.seq (W.chunk ?_)
    simp (disch := first|omega|exact zE rfl|exact zO|exact zL rfl) [c8_o12, zG, q]
    refine W.seq (W.chunk ?_)
    simp (disch := first|omega|exact zE rfl|exact zO|exact zL rfl) [c8_o13, zG, q]
    refine W.assoc ?_
    refine W.seq (W.chunk ?_)
    simp (disch := first|omega|exact zE rfl|exact zO|exact zL rfl) [c8_o14, zG, q]
    refine W.seq (W.block ?_)
    refine W.use (l2) (by simp (disch := first|omega|exact zE rfl|exact zO|exact zL rfl) [zG, q]) fun s1 H1 hp => ?_
    obtain ⟨rfl, q⟩ := hp
    try simp only [zW, if_true]
    refine W.seq (W.chunk ?_)
    simp (disch := first|omega|exact zE rfl|exact zO|exact zL rfl) [c8_o32, zG, q, k23]
    refine W.ret ?_
    try simp only [zW, if_true]
    exact kR _ _ (by simp [T.get])
end
theorem kW49 : KnW T49 where
  k18 := fun h a o => k18 h a o
  k19 := kT49.k19
  k21 := kT49.k21
  k23 := kT49.k23
  k25 := fun h a m o => by
    obtain ⟨v, own, e, l⟩ := k25 h a m o
    exact ⟨v, own, by rw [show T49 25 [a.v, G m] h = T19 25 [a.v, G m] h from by simp (disch := decide) only [T20, T21, T22, T23, T24, T25, T26, T27, T28, T29, T30, T31, T32, T33, T34, T35, T36, T37, T38, T39, T40, T41, T42, T43, T44, T45, T46, T47, T48, T49, addI_ne, addX_ne, addV_ne, addK_ne]]; exact e, l⟩
  k26 := fun h a m o => by
    obtain ⟨v, own, e, l⟩ := k26 h a m o
    exact ⟨v, own, by rw [show T49 26 [a.v, G m] h = T20 26 [a.v, G m] h from by simp (disch := decide) only [T21, T22, T23, T24, T25, T26, T27, T28, T29, T30, T31, T32, T33, T34, T35, T36, T37, T38, T39, T40, T41, T42, T43, T44, T45, T46, T47, T48, T49, addI_ne, addX_ne, addV_ne, addK_ne]]; exact e, l⟩
  k41 := fun h a m n o => by
    rw [show T49 41 [a.v, G m, G n] h = T45 41 [a.v, G m, G n] h from by simp (disch := decide) only [T46, T47, T48, T49, addI_ne, addX_ne, addV_ne, addK_ne]]; exact k41 h a m n o
theorem stripWalks_ok (h : Heap) (m : Int) {nq : Int} {x y : AV} {B W : List (List Int)} (mx : MR h x B) (my : MR h y W) : CallsTo tbl T49 8 [.agg [G nq, x, y], G m] h (.bool true, [], false) := c8_ok T49 kW49 (fun _ _ => by simp (disch := decide) only [T1, T2, T3, T4, T5, T6, T7, T8, T9, T10, T11, T12, T13, T14, T15, T16, T17, T18, T19, T20, T21, T22, T23, T24, T25, T26, T27, T28, T29, T30, T31, T32, T33, T34, T35, T36, T37, T38, T39, T40, T41, T42, T43, T44, T45, T46, T47, T48, T49, addI_ne, addX_ne, addV_ne, addK_ne]; rfl) h mx my
end Go.Proofs.Ytljgfdamdcikgaa.Ev
set_option linter.unusedVariables false
set_option linter.unusedSimpArgs false
namespace Go.AEv
open Go.ChangeShapes Go.WideShapes Go.Proofs.Ytljgfdamdcikgaa.Ev
theorem MR.ext {h h' : Heap} (e : Ext h h') {y : AV} {M : List (List Int)} (m : MR h y M) : MR h' y M := by
  rcases m with m | ⟨b, v, cs, rfl, g, hl, hr⟩
  · exact .inl m
  · refine .inr ⟨b, v, cs, rfl, e _ _ g (by simp), hl, fun i r q => ?_⟩
    obtain ⟨l, h1, h2⟩ := hr i r q
    exact ⟨l, h1, LR.ext e h2⟩
theorem rows_lo {CK : CKT} {w : World} {H : Type} {enc : TypeId × Value → H} {P : Program} {e i : TypeId} (he : P.underlying e = some (.slice i)) (hi : P.underlying i = some (.int .i64)) (hc : P.cellsOf i = 1) :
    ∀ (vs : List Value) {φ : Nat → Emb} {h : Heap} (ho : h.own = []) (hr : HR CK w [] φ h w), (∀ u ∈ vs, ∃ fuel z, DataW.trod enc P w 0 (fun _ => true) true fuel e [u] = some z) →
    ∃ φ' h', ∃ (rs : List AV) (ls : List (List Int)), h'.own = [] ∧ HR CK w [] φ' h' w ∧ Stp φ h φ' h' ∧ Ext h h' ∧ rs.length = vs.length ∧ ls.length = vs.length ∧ ∀ (j : Nat) u r, vs[j]? = some u → rs[j]? = some r → VR φ' h' r u ∧ Value.oneCell' u = true ∧ ∃ l, ls[j]? = some l ∧ LR h' r l
  | [], φ, h, ho, hr, _ => ⟨φ, h, [], [], ho, hr, Stp.refl φ h, Ext.refl h, rfl, rfl, fun j u r q => by simp at q⟩
  | u :: us, φ, h, ho, hr, ht => by
    obtain ⟨fuel, z, hf⟩ := ht u (by simp)
    obtain ⟨φ1, h1, x, l, o1, r1, s1, e1, v1, p1, c1⟩ := ints_lo0 ho hr he hi hc hf
    obtain ⟨φ2, h2, rs, ls, o2, r2, s2, e2, l1, l2, q⟩ := rows_lo he hi hc us o1 r1 (fun u' hu => ht u' (by simp [hu]))
    refine ⟨φ2, h2, x :: rs, l :: ls, o2, r2, s1.trans s2, e1.trans e2, by simp [l1], by simp [l2], fun j u' r hu hr' => ?_⟩
    cases j with
    | zero =>
      simp only [List.getElem?_cons_zero, Option.some.injEq] at hu hr'
      subst hu hr'
      exact ⟨VR.step s2 _ _ v1, c1, l, rfl, p1.ext e2⟩
    | succ j =>
      simp only [List.getElem?_cons_succ] at hu hr' ⊢
      exact q j u' r hu hr'
theorem mat_lo0 {CK : CKT} {φ : Nat → Emb} {h : Heap} {w : World} (ho : h.own = []) (hr : HR CK w [] φ h w) {H : Type} {enc : TypeId × Value → H} {P : Program} {t e i : TypeId} {v : Value} {fuel : Nat} {z : DataW H × List MemPlace}
    (ht : P.underlying t = some (.slice e)) (he : P.underlying e = some (.slice i)) (hi : P.underlying i = some (.int .i64)) (hce : P.cellsOf e = 1) (hci : P.cellsOf i = 1) (hf : DataW.trod enc P w 0 (fun _ => true) true fuel t [v] = some z) :
    ∃ φ' h' x M, h'.own = [] ∧ HR CK w [] φ' h' w ∧ Stp φ h φ' h' ∧ Ext h h' ∧ VR φ' h' x v ∧ MR h' x M ∧ Value.oneCell' v = true := by
  rcases DataW.trod_slice ht hf with ⟨hcs, _⟩ | ⟨a, len, cap, elems, rest, n, _, hcs, _, _, hl, hm, hlen, hel, hsp, _⟩
  · have hcs' : v = .slice none 0 0 := (List.cons.inj hcs).1
    rw [hcs']
    exact ⟨φ, h, .nils, [], ho, hr, Stp.refl φ h, Ext.refl h, by simp [VR], .inl ⟨.inl rfl, rfl⟩, rfl⟩
  · have hcs' : v = .slice (some a) len cap := (List.cons.inj hcs).1
    rw [hcs']
    by_cases h0 : len = 0
    · subst h0
      exact ⟨φ, h, .slice0, [], ho, hr, Stp.refl φ h, Ext.refl h, by simp [VR], .inl ⟨.inr rfl, rfl⟩, rfl⟩
    · obtain ⟨hrl, hre⟩ := hsp rfl
      have each : ∀ j, j < cap → ∃ u, w.cell? (a.add j) = some u ∧ ∃ z, DataW.trod enc P w 0 (fun _ => true) true n e [u] = some z := fun j hj => by
        have hb' : ∃ y, (w.cells? 0 (a.add (j * P.cellsOf e)) (P.cellsOf e)).bind (DataW.trod enc P w 0 (fun _ => true) true n e) = some y := by
          by_cases hjl : j < len
          · rw [hel j hjl, List.getElem?_eq_getElem (by omega)]; exact ⟨_, rfl⟩
          · have := hre (j - len) (by omega)
            rw [show len + (j - len) = j by omega] at this
            rw [this, List.getElem?_eq_getElem (by omega)]; exact ⟨_, rfl⟩
        obtain ⟨y, hy⟩ := hb'
        rw [hce, Nat.mul_one, Option.bind_eq_some_iff] at hy
        obtain ⟨cs', h1, h2⟩ := hy
        have hl1 := (World.cells?_some h1).2.1
        obtain ⟨u, rfl⟩ : ∃ u, cs' = [u] := by
          cases cs' with
          | nil => simp at hl1
          | cons u r => cases r with
            | nil => exact ⟨u, rfl⟩
            | cons u' r => simp at hl1
        exact ⟨u, cell_of_cells?_one h1, y, h2⟩
      obtain ⟨f, hfe⟩ : ∃ f : Nat → Value, ∀ j, j < cap → w.cell? (a.add j) = some (f j) ∧ ∃ z, DataW.trod enc P w 0 (fun _ => true) true n e [f j] = some z :=
        ⟨fun j => if hj : j < cap then Classical.choose (each j hj) else .nilFunc, fun j hj => by
          simp only [dif_pos hj]
          exact Classical.choose_spec (each j hj)⟩
      obtain ⟨b, off, spot⟩ := a
      have hspot : spot = none := by simpa [Addr.add] using World.cell?_spot (hfe 0 (by omega)).1
      subst hspot
      have hcell : ∀ j, j < cap → w.cell? ⟨b, off + j, none⟩ = some (f j) := fun j hj => by rw [← Go.WideShapes.add_plain]; exact (hfe j hj).1
      obtain ⟨c, ty, fr, hb, hc0⟩ := cell_obj (hcell 0 (by omega))
      have hcj : ∀ j, j < cap → c[off + j]? = some (f j) := fun j hj => by
        obtain ⟨c', ty', fr', hb', hcj⟩ := cell_obj (hcell j hj)
        rw [hb] at hb'
        simp only [Option.some.injEq, Obj.cells.injEq] at hb'
        obtain ⟨rfl, _⟩ := hb'
        exact hcj
      have hsize : off + cap ≤ c.size := by
        have := (Array.getElem?_eq_some_iff.1 (hcj (cap - 1) (by omega))).1
        omega
      obtain ⟨φ1, h1, rs, ls, o1, r1, s1, e1, l1, l2, q⟩ := rows_lo he hi hci ((List.range len).map f) ho hr (fun u hu => by
        obtain ⟨j, hj, rfl⟩ := List.mem_map.1 hu
        obtain ⟨z, hz⟩ := (hfe j (by have := List.mem_range.1 hj; omega)).2
        exact ⟨n, z, hz⟩)
      simp only [List.length_map, List.length_range] at l1 l2
      have hat : ∀ j, j < len → ((List.range len).map f)[j]? = some (f j) := fun j hj => by simp [hj]
      refine ⟨AEv.upd φ1 h1.N ⟨b, off, cap⟩, h1.more (.cells 1 len rs), .slice h1.N 0 len len, ls, rfl, lo_add o1 r1 _ _ ?_, s1.trans (lo_stp o1 _ _), e1.trans (more_ext h1 o1 _), ?_, .inr ⟨h1.N, len, rs, by rw [l2], more_at _ _, by omega, fun j r hr' => ?_⟩, rfl⟩
      · refine ⟨c, ty, fr, hb, hsize, by show rs.length ≤ cap; omega, fun j x hx => ?_⟩
        have hj : j < len := by have := (List.getElem?_eq_some_iff.1 hx).1; omega
        obtain ⟨q1, q2, _⟩ := q j (f j) x (hat j hj) hx
        exact ⟨f j, hcj j (by omega), VR.step (lo_stp o1 _ _) _ _ q1, q2⟩
      · simp only [VR]
        exact ⟨_, cap, 1, len, _, rfl, hl, more_at _ _, Nat.le_refl _, fun _ => ⟨by simp [AEv.upd], fun _ _ => by simp [AEv.upd]⟩⟩
      · have hj : j < len := by have := (List.getElem?_eq_some_iff.1 hr').1; omega
        obtain ⟨_, _, l, q3, q4⟩ := q j (f j) r (hat j hj) hr'
        exact ⟨l, q3, q4.ext (more_ext h1 o1 _)⟩
structure RuleKey (P : Program) (k i t : TypeId) (f g l : Field) : Prop where
  hu : P.underlying k = some (.struct #[f, g, l])
  size : P.cellsOf k = 3
  ci : P.cellsOf i = 1
  ct : P.cellsOf t = 1
  f1 : f.type = i
  f2 : g.type = t
  f3 : l.type = t
  o1 : f.offset = 0
  o2 : g.offset = 1
  o3 : l.offset = 2
theorem okWide_rule {P : Program} {W : World} {k i t : TypeId} {f g l : Field} (A : RuleKey P k i t f g l) {r : Reach} {b0 : Nat} {v : Value} (h : Value.okWide P W r b0 k v) : ∃ c0 c1 c2, v = .agg #[c0, c1, c2] := by
  simp only [Value.okWide, A.hu] at h
  obtain ⟨cs, h1, h2, _⟩ := h
  rw [A.size] at h2
  obtain ⟨l⟩ := cs
  match l, h2 with
  | [c0, c1, c2], _ => exact ⟨c0, c1, c2, h1⟩
theorem rule_lo {CK : CKT} {φ : Nat → Emb} {h : Heap} {w : World} (ho : h.own = []) (hr : HR CK w [] φ h w) {H : Type} {enc : TypeId × Value → H} {P : Program} {k i t e : TypeId} {f g l : Field} {v : Value} {d : DataW H} {p : List MemPlace} (A : RuleKey P k i t f g l)
    (ht : P.underlying t = some (.slice e)) (he : P.underlying e = some (.slice i)) (hi : P.underlying i = some (.int .i64)) (hce : P.cellsOf e = 1) {r : Reach} {b0 : Nat} (hval : Value.okWide P w r b0 k v) (kd : DataW.Trod enc P w 0 (fun _ => true) true k v d p) :
    ∃ φ' h' q x y B W, h'.own = [] ∧ HR CK w [] φ' h' w ∧ Stp φ h φ' h' ∧ Ext h h' ∧ VR φ' h' (.agg [.int .i64 q, x, y]) v ∧ MR h' x B ∧ MR h' y W := by
  obtain ⟨c0, c1, c2, rfl⟩ := okWide_rule A hval
  obtain ⟨fuel, hf⟩ := kd
  cases fuel with
  | zero => simp [DataW.trod] at hf
  | succ n =>
    rw [DataW.trod_step] at hf
    unfold DataW.trodStep at hf
    simp only [A.hu, Value.cells] at hf
    rw [if_pos (by rw [A.size]; rfl)] at hf
    simp only [Option.map_eq_some_iff] at hf
    obtain ⟨xs, hx, e1⟩ := hf
    rw [List.mapM_cons, List.mapM_cons, List.mapM_cons, List.mapM_nil] at hx
    simp only [bind, Option.bind_eq_some_iff, pure, Option.some.injEq, A.ci, A.ct, A.f1, A.f2, A.f3, A.o1, A.o2, A.o3] at hx
    obtain ⟨y0, h0, _, ⟨y1, h1, _, ⟨y2, h2, _, rfl, rfl⟩, rfl⟩, rfl⟩ := hx
    have h0' : DataW.trod enc P w 0 (fun _ => true) true n i [c0] = some y0 := h0
    have h1' : DataW.trod enc P w 0 (fun _ => true) true n t [c1] = some y1 := h1
    have h2' : DataW.trod enc P w 0 (fun _ => true) true n t [c2] = some y2 := h2
    obtain ⟨a, ea, _, _⟩ := DataW.trod_int hi h0'
    obtain rfl : c0 = .int .i64 a := by simpa using ea
    obtain ⟨φ1, m1, x, B, o1, r1, s1, x1, v1, p1, q1⟩ := mat_lo0 ho hr ht he hi hce A.ci h1'
    obtain ⟨φ2, m2, y, W, o2, r2, s2, x2, v2, p2, q2⟩ := mat_lo0 o1 r1 ht he hi hce A.ci h2'
    refine ⟨φ2, m2, a, x, y, B, W, o2, r2, s1.trans s2, x1.trans x2, ?_, Go.AEv.MR.ext x2 p1, p2⟩
    simp only [VR, VRs]
    refine ⟨#[.int .i64 a, c1, c2], rfl, ⟨_, [c1, c2], rfl, rfl, c1, [c2], rfl, VR.step s2 _ _ v1, c2, [], rfl, v2, rfl⟩, fun z hz => ?_⟩
    simp only [List.mem_cons, List.not_mem_nil, or_false] at hz
    rcases hz with rfl | rfl | rfl
    · rfl
    · exact q1
    · exact q2
end Go.AEv
