/-
  Of the functions that this law reaches, part 2: what they answer. No condition.
-/
import Derived.Test.YtljgfdamdcikgaaRP1
import Derived.Test.YtljgfdamdcikgaaRP0
import Derived.WideKeyPair
set_option linter.unusedVariables false
set_option linter.unusedSimpArgs false
namespace Go.Proofs.Ytljgfdamdcikgaa.Ev
open Go Go.AEv
attribute [local simp] evFunc initS evOps_c evTrim_c evSkip_c evExit_c evRet_c evSeq_c evCond_c evBlock_c evDraw_c runOps_n runOps_c exec_n exec_g pure1_c act AOpd.ev T.get T.set T.put evBin evUn forceT_eq forceV_eq forceL_eq evRess evRes one keep runFP_n runFP_c app_none AV.flats AV.flat came_some List.getElem?_cons_zero List.getElem?_cons_succ beqT wrapI idxI tdivI tmodI decT decF ibT ibF inT inF evScope_c if_pos if_neg Cm_some thenW_n thenW_e thenW_r blkW_n blkW_e blkW_r goI kn putAt AV.cells fillA loadA takeA mk Eff.isAll Eff.isNone Eff.commutes Eff.spares okPair apart eqAgg fits LK.fits allEq aveq eqk mmA
theorem sat_sum : ∀ L : List Nat, sat ((L.map sat).sum) = sat L.sum
  | [] => rfl
  | a :: L => by
    rw [List.map_cons, List.sum_cons, List.sum_cons, ← sat_add2, sat_sum L]
    have : sat (sat a) = sat a := by unfold sat; omega
    rw [this, sat_add2]
theorem rowS_eq (S : List (List Nat)) (k : Nat) : rowS S k = (rowC S k).map sat := by
  unfold rowS lN rowC
  rw [List.map_map]; rfl
def cnI (S : List (List Nat)) (n : Nat) : Nat := if n = 0 then 1 else (rowC S (n - 1)).sum
section
variable {S : List (List Nat)} {nn : Nat}
theorem c33_l (J : CallF) (k72 : K72 J) (os : OkS S) {Hb H : Heap} {x : AV} (tb : TB Hb H x (rowsS S nn)) (k40 : nn ≤ 40) :
    (okC S nn = true → Tr tbl J c33_l0 (fun s h => h = H ∧ s.get [true] = G nn ∧ s.get [true, false, false] = x ∧ s.get [false, true, false] = G (cnI S 0) ∧ s.get [true, true, false] = G ((0 : Nat) : Int)) (.exit 0) (fun s h => s.get [false, true, false] = G (cnI S nn) ∧ True)) ∧
    (okC S nn = false → Tr tbl J c33_l0 (fun s h => h = H ∧ s.get [true] = G nn ∧ s.get [true, false, false] = x ∧ s.get [false, true, false] = G (cnI S 0) ∧ s.get [true, true, false] = G ((0 : Nat) : Int)) .ret (fun s h => s.get [true, true] = G 0 ∧ s.get [false, false, false] = .bool false)) := by
  have key : ∀ j, j < nn → Tr tbl J (.trim [[true], [true, false, false], [false, true, false], [true, true, false]] c33_b0) (fun s h => h = H ∧ s.get [true] = G nn ∧ s.get [true, false, false] = x ∧ s.get [false, true, false] = G (cnI S j) ∧ s.get [true, true, false] = G j) (if decide ((rowC S j).sum ≤ 1152921504606846976) = true then .normal else .ret)
      (if decide ((rowC S j).sum ≤ 1152921504606846976) = true then (fun s h => h = H ∧ s.get [true] = G nn ∧ s.get [true, false, false] = x ∧ s.get [false, true, false] = G (cnI S (j + 1)) ∧ s.get [true, true, false] = G ((j + 1 : Nat) : Int)) else (fun s h => s.get [true, true] = G 0 ∧ s.get [false, false, false] = .bool false)) := fun j hj => by
    obtain ⟨bo, ros, e1, e2, e3, e4⟩ := tb.sl (i := j) (by rw [rowsS_len]; exact hj)
    rw [rowsS_len] at e1 e2 e3
    obtain ⟨br, e5, e6⟩ := e4 j _ (rowsS_at S hj)
    have lr : (gn (rowS S j)).length = S.length := lN_len _ _
    rw [lr] at e5 e6
    have e5' := getI e5
    have k := k72 H (.slice br 0 S.length S.length) (rowS S j) (.inr ⟨br, _, by rw [lr], e6⟩) (by have := os.n; rw [← gn_len, lr]; omega) (fun v hv => by
      rw [rowS_eq] at hv
      obtain ⟨u, _, rfl⟩ := List.mem_map.1 hv
      have := sat_le u; omega)
    rw [rowS_eq, sat_sum] at k
    have cs : cnI S (j + 1) = (rowC S j).sum := rfl
    rw [cs]
    have n2 := os.n
    clear tb e4 e6 cs
    subst e1
    generalize cnI S j = c0 at *
    generalize hsm : (rowC S j).sum = sm at *
    generalize S.length = n at *
    by_cases c : sm ≤ 1152921504606846976
    · rw [decide_eq_true c, if_pos rfl, if_pos rfl]
      rw [sat_of c] at k
      refine Tr.w fun s1 H1 hp _ kR => W.trim ?_
      obtain ⟨rfl, q⟩ := hp
      refine W.assoc ?_
      refine W.seq (W.chunk ?_)
      simp (disch := first|omega|exact zE rfl|exact zO|exact zL rfl) [c33_o4, zG, q]
      refine W.seq (W.chunk ?_)
      simp (disch := first|omega|exact zE rfl|exact zO|exact zL rfl) [zG, q]
      refine W.seq (W.block ?_)
      refine W.seq (W.chunk ?_)
      simp (disch := first|omega|exact zE rfl|exact zO|exact zL rfl) [c33_o5, zG, q, e2, e5, e5', e3, k]
      refine W.seq (W.chunk ?_)
      simp (disch := first|omega|exact zE rfl|exact zO|exact zL rfl) [c33_o6, zG, q]
      refine W.chunk ?_
      simp (disch := first|omega|exact zE rfl|exact zO|exact zL rfl) [c33_o7, zG, q]
      refine W.chunk ?_
      simp (disch := first|omega|exact zE rfl|exact zO|exact zL rfl) [c33_o8, zG, q]
      exact kR _ _ (by simp [T.get, q])
    · rw [decide_eq_false c, if_neg (by simp), if_neg (by simp)]
      have sg := sat_gt.2 (show 1152921504606846976 < sm by omega)
      have sl := sat_le sm
      generalize sat sm = z at *
      refine Tr.w fun s1 H1 hp _ kR => W.trim ?_
      obtain ⟨rfl, q⟩ := hp
      refine W.assoc ?_
      refine W.seq (W.chunk ?_)
      simp (disch := first|omega|exact zE rfl|exact zO|exact zL rfl) [c33_o4, zG, q]
      refine W.seq (W.chunk ?_)
      simp (disch := first|omega|exact zE rfl|exact zO|exact zL rfl) [zG, q]
      refine W.seq (W.block ?_)
      refine W.seq (W.chunk ?_)
      simp (disch := first|omega|exact zE rfl|exact zO|exact zL rfl) [c33_o5, zG, q, e2, e5, e5', e3, k]
      refine W.seq (W.chunk ?_)
      simp (disch := first|omega|exact zE rfl|exact zO|exact zL rfl) [c33_o6, zG, q]
      refine W.chunk ?_
      simp (disch := first|omega|exact zE rfl|exact zO|exact zL rfl) [c33_o7, zG, q]
      exact kR _ _ (by simp [T.get, q])
  have fin : Tr tbl J (.trim [[true], [true, false, false], [false, true, false], [true, true, false]] c33_b0) (fun s h => h = H ∧ s.get [true] = G nn ∧ s.get [true, false, false] = x ∧ s.get [false, true, false] = G (cnI S nn) ∧ s.get [true, true, false] = G nn) (.exit 0) (fun s h => s.get [false, true, false] = G (cnI S nn) ∧ True) := by
    refine Tr.w fun s1 H1 hp _ kR => W.trim ?_
    obtain ⟨rfl, q⟩ := hp
    refine W.assoc ?_
    refine W.seq (W.chunk ?_)
    simp (disch := first|omega|exact zE rfl|exact zO|exact zL rfl) [c33_o4, zG, q]
    refine W.seq (W.chunk ?_)
    simp (disch := first|omega|exact zE rfl|exact zO|exact zL rfl) [zG, q]
    exact kR _ _ (by simp [T.get, q])
  exact ⟨fun h => Tr.allT (P := fun j => (fun s h => h = H ∧ s.get [true] = G nn ∧ s.get [true, false, false] = x ∧ s.get [false, true, false] = G (cnI S j) ∧ s.get [true, true, false] = G j)) (p := fun k => decide ((rowC S k).sum ≤ 1152921504606846976)) nn (fun i hi hp => by have := key i hi; rw [if_pos hp, if_pos hp] at this; exact this) fin (by simp) nn 0 (by omega) h,
    fun h => Tr.allF (P := fun j => (fun s h => h = H ∧ s.get [true] = G nn ∧ s.get [true, false, false] = x ∧ s.get [false, true, false] = G (cnI S j) ∧ s.get [true, true, false] = G j)) (p := fun k => decide ((rowC S k).sum ≤ 1152921504606846976)) nn (fun i hi hp => by have := key i hi; rw [if_pos hp, if_pos hp] at this; exact this) (fun i hi hp => by have := key i hi; rw [if_neg (by rw [hp]; simp), if_neg (by rw [hp]; simp)] at this; exact this) (by simp) nn 0 (by omega) h⟩
end
section
variable {a : AR} {m n : Int}
def AR.rcV (a : AR) (m n : Int) : AV := if okC (a.steps m) n.toNat then .tup [G (a.cn m n.toNat), .bool true] else .tup [G 0, .bool false]
theorem c33_ok (J : CallF) (k31 : K31 J) (k71 : K71 J) (k72 : K72 J) (hJ : ∀ a h, J 33 a h = none) (h : Heap) (o : OkR a h) (g : a.gd m n 0 = true) : CallsTo tbl J 33 [a.v, G m, G n] h (a.rcV m n, [], false) := by
  unfold AR.gd at g
  simp only [Bool.and_eq_true, decide_eq_true_eq] at g
  obtain ⟨r, n1, n2⟩ := g
  obtain ⟨r1, r2⟩ := a.rm_iff r
  obtain ⟨os, s243, _⟩ := AR.steps_ok r
  obtain ⟨Hs, hHs⟩ : ∃ H, (⟨h.get, h.size, [.cells 0 3 [G a.q, a.x, a.y]]⟩ : Heap) = H := ⟨_, rfl⟩
  have oH : OkR a Hs := by rw [← hHs]; exact o.lo _
  have gS : Hs.get h.size = .cells 0 3 [G a.q, a.x, a.y] := by rw [← hHs, get_mk_ge _ _ _ _ (Nat.le_refl _), Nat.sub_self]; rfl
  obtain ⟨x, own, e31, l31⟩ := k31 Hs a.g m.toNat (oH.g r1) (by omega)
  rw [a.gv r1, show ((m.toNat : Nat) : Int) = m by omega] at e31
  obtain ⟨Z, hZ⟩ : ∃ Z, Hs.plus own = Z := ⟨_, rfl⟩
  rw [hZ] at l31
  have ln : LN Z x (a.steps m) := l31.ln
  obtain ⟨v, own2, e71, tb⟩ := k71 Z x n.toNat (a.steps m) os ln (by omega)
  obtain ⟨Z2, hZ2⟩ : ∃ H, Z.plus own2 = H := ⟨_, rfl⟩
  rw [hZ2] at tb
  have nn : ((n.toNat : Nat) : Int) = n := by omega
  have l0 := c33_l J k72 os tb (by omega)
  rw [nn] at e71 l0
  have cn0 : cnI (a.steps m) 0 = 1 := rfl
  rw [cn0] at l0
  unfold AR.rcV
  cases hc : okC (a.steps m) n.toNat
  · have l0 := l0.2 hc
    refine Tr.fnv (cf := c33) (e := .ret) (s := T.set (T.set (T.set .leaf [] a.v) [false] (G m)) [true] (G n)) (by decide) rfl (hJ _ _) rfl rfl rfl (by simp) ?_
    refine Tr.post (Q := (fun s h => s.get [true, true] = G 0 ∧ s.get [false, false, false] = .bool false)) (fun s h q => by simp [c33, q]) ?_
    clear tb ln l31 os oH o
    refine Tr.w fun s1 H1 hp _ kR => ?_
    obtain ⟨rfl, rfl⟩ := hp
    have q : True := trivial
    refine W.seq (W.chunk ?_)
    simp (disch := first|omega|exact zE rfl|exact zO|exact zL rfl) [c33_o0, size_mk, get_mk_lt, get_mk_ge, frameOf, Eff.app, Heap.setOwn, q, hHs]
    refine W.seq (W.chunk ?_)
    simp (disch := first|omega|exact zE rfl|exact zO|exact zL rfl) [c33_o1, zG, q, gS, e31, app_if, app_if', hZ, e71, hZ2]
    refine W.seq (W.chunk ?_)
    simp (disch := first|omega|exact zE rfl|exact zO|exact zL rfl) [c33_o2, zG, q]
    refine W.assoc ?_
    refine W.seq (W.chunk ?_)
    simp (disch := first|omega|exact zE rfl|exact zO|exact zL rfl) [c33_o3, zG, q]
    refine W.seq (W.block ?_)
    refine W.use (l0) (by simp (disch := first|omega|exact zE rfl|exact zO|exact zL rfl) [size_mk, get_mk_lt, get_mk_ge, frameOf, Eff.app, Heap.setOwn, q]) fun s1 H1 hp => ?_
    try simp only [zW, if_true]
    exact kR _ _ hp
  · have l0 := l0.1 hc
    refine Tr.fnv (cf := c33) (e := .ret) (s := T.set (T.set (T.set .leaf [] a.v) [false] (G m)) [true] (G n)) (by decide) rfl (hJ _ _) rfl rfl rfl (by simp) ?_
    have ec : a.cn m n.toNat = cnI (a.steps m) n.toNat := rfl
    rw [if_pos rfl, ec]
    refine Tr.post (Q := (fun s h => s.get [true, true] = G (cnI (a.steps m) n.toNat) ∧ s.get [false, false, false] = .bool true)) (fun s h q => by simp [c33, q]) ?_
    clear tb ln l31 os oH o ec
    generalize cnI (a.steps m) n.toNat = c at *
    refine Tr.w fun s1 H1 hp _ kR => ?_
    obtain ⟨rfl, rfl⟩ := hp
    have q : True := trivial
    refine W.seq (W.chunk ?_)
    simp (disch := first|omega|exact zE rfl|exact zO|exact zL rfl) [c33_o0, size_mk, get_mk_lt, get_mk_ge, frameOf, Eff.app, Heap.setOwn, q, hHs]
    refine W.seq (W.chunk ?_)
    simp (disch := first|omega|exact zE rfl|exact zO|exact zL rfl) [c33_o1, zG, q, gS, e31, app_if, app_if', hZ, e71, hZ2]
    refine W.seq (W.chunk ?_)
    simp (disch := first|omega|exact zE rfl|exact zO|exact zL rfl) [c33_o2, zG, q]
    refine W.assoc ?_
    refine W.seq (W.chunk ?_)
    simp (disch := first|omega|exact zE rfl|exact zO|exact zL rfl) [c33_o3, zG, q]
    refine W.seq (W.block ?_)
    refine W.use (l0) (by simp (disch := first|omega|exact zE rfl|exact zO|exact zL rfl) [size_mk, get_mk_lt, get_mk_ge, frameOf, Eff.app, Heap.setOwn, q]) fun s1 H1 hp => ?_
    obtain ⟨q, _⟩ := hp
    try simp only [zW, if_true]
    refine W.seq (W.chunk ?_)
    simp (disch := first|omega|exact zE rfl|exact zO|exact zL rfl) [c33_o9, zG, q]
    refine W.ret ?_
    try simp only [zW, if_true]
    exact kR _ _ (by simp [T.get, q])
end
def Pre33 (b : ARmn) (args : List AV) (h : Heap) : Prop := (OkR b.a h ∧ b.a.gd b.m b.n 0 = true) ∧ args = [b.a.v, G b.m, G b.n]
def Post33 (b : ARmn) (h : Heap) (v : AV) (own : List AObj) : Prop := v = b.a.rcV b.m b.n ∧ own = []
noncomputable def T41 : CallF := addK tbl T40 33 Pre33 Post33
theorem t41 : Sound Go.Proofs.Try.prog T41 := Sound.addK follows ok t40 (by decide) _ _
abbrev K33 (J : CallF) : Prop := ∀ (h : Heap) (a : AR) (m n : Int), OkR a h → a.gd m n 0 = true → J 33 [a.v, G m, G n] h = some (a.rcV m n, [], false)
theorem k31_40 : K31 T40 := fun h a m o m5 => by
  obtain ⟨v, own, e, l⟩ := k31 h a m o m5
  exact ⟨v, own, by rw [show T40 31 [a.v, G m] h = T25 31 [a.v, G m] h from by simp (disch := decide) only [T26, T27, T28, T29, T30, T31, T32, T33, T34, T35, T36, T37, T38, T39, T40, addI_ne, addX_ne, addV_ne, addK_ne]]; exact e, l⟩
theorem k72_40 : K72 T40 := fun h x L h1 h2 h3 => by
  rw [show T40 72 [x] h = T36 72 [x] h from by simp (disch := decide) only [T37, T38, T39, T40, addI_ne, addX_ne, addV_ne, addK_ne]]; exact k72 h x L h1 h2 h3
theorem k33 : K33 T41 := fun h a m n o g => by
  obtain ⟨v, own, e, rfl, rfl⟩ := addK_some (Pre := Pre33) (Post := Post33) (fun b args h hp => by
    obtain ⟨⟨o, g⟩, rfl⟩ := hp
    exact ⟨_, _, c33_ok T40 k31_40 k71 k72_40 (fun _ _ => by simp (disch := decide) only [T1, T2, T3, T4, T5, T6, T7, T8, T9, T10, T11, T12, T13, T14, T15, T16, T17, T18, T19, T20, T21, T22, T23, T24, T25, T26, T27, T28, T29, T30, T31, T32, T33, T34, T35, T36, T37, T38, T39, T40, addI_ne, addX_ne, addV_ne, addK_ne]; rfl) h o g, rfl, rfl⟩) ⟨a, m, n⟩ _ h ⟨⟨o, g⟩, rfl⟩
  exact e
def nE (L : List Nat) (v i : Nat) : Bool := decide (L.getD i 0 ≠ v)
theorem nE_all {L : List Nat} {v : Nat} : af (nE L v) 0 L.length = decide (v ∉ L) := by
  rw [Bool.eq_iff_iff, af_iff, decide_eq_true_eq]
  constructor
  · intro a hv
    obtain ⟨i, hi, rfl⟩ := List.mem_iff_getElem.1 hv
    have := a i (Nat.zero_le _) (by omega)
    unfold nE at this
    rw [decide_eq_true_eq, List.getD_eq_getElem?_getD, List.getElem?_eq_getElem hi] at this
    exact this rfl
  · intro hv i _ hi
    unfold nE
    rw [decide_eq_true_eq, List.getD_eq_getElem?_getD, List.getElem?_eq_getElem (by omega)]
    intro e
    exact hv (e ▸ List.getElem_mem _)
section
variable {L : List Nat} {v : Nat}
theorem c93_l (J : CallF) {H : Heap} {b w : Nat} (g : H.get b = .cells 1 w (gn L)) (hn : L.length ≤ 1000000) :
    (af (nE L v) 0 L.length = true → Tr tbl J c93_l0 (fun s h => h = H ∧ s.get [] = .slice b 0 L.length w ∧ s.get [false] = G v ∧ s.get [false, false, false] = G L.length ∧ s.get [true, false, false] = G ((0 : Nat) : Int)) (.exit 0) (fun s h => True)) ∧
    (af (nE L v) 0 L.length = false → Tr tbl J c93_l0 (fun s h => h = H ∧ s.get [] = .slice b 0 L.length w ∧ s.get [false] = G v ∧ s.get [false, false, false] = G L.length ∧ s.get [true, false, false] = G ((0 : Nat) : Int)) .ret (fun s h => ∃ z : Nat, s.get [true, false] = G z)) := by
  have lg := gn_len L
  have key : ∀ i, i < L.length → Tr tbl J (.trim [[], [false], [false, false, false], [true, false, false]] c93_b0) (fun s h => h = H ∧ s.get [] = .slice b 0 L.length w ∧ s.get [false] = G v ∧ s.get [false, false, false] = G L.length ∧ s.get [true, false, false] = G i) (if nE L v i then .normal else .ret)
      (if nE L v i then (fun s h => h = H ∧ s.get [] = .slice b 0 L.length w ∧ s.get [false] = G v ∧ s.get [false, false, false] = G L.length ∧ s.get [true, false, false] = G ((i + 1 : Nat) : Int)) else (fun s h => ∃ z : Nat, s.get [true, false] = G z)) := fun i hi => by
    have e1 := gn_at hi
    have e1' := getI e1
    unfold nE
    generalize L.getD i 0 = x at *
    generalize L.length = n at *
    generalize gn L = cs at *
    by_cases c : x = v
    · subst c
      rw [if_neg (by simp), if_neg (by simp)]
      refine Tr.w fun s1 H1 hp _ kR => W.trim ?_
      obtain ⟨rfl, q⟩ := hp
      refine W.seq (W.chunk ?_)
      simp (disch := first|omega|exact zE rfl|exact zO|exact zL rfl) [c93_o2, zG, q]
      refine W.seq (W.chunk ?_)
      simp (disch := first|omega|exact zE rfl|exact zO|exact zL rfl) [zG, q]
      refine W.seq (W.block ?_)
      refine W.seq (W.chunk ?_)
      simp (disch := first|omega|exact zE rfl|exact zO|exact zL rfl) [c93_o3, zG, q]
      refine W.seq (W.chunk ?_)
      simp (disch := first|omega|exact zE rfl|exact zO|exact zL rfl) [c93_o4, zG, q, g, e1, e1', lg]
      refine W.chunk ?_
      simp (disch := first|omega|exact zE rfl|exact zO|exact zL rfl) [c93_o5, zG, q]
      exact kR _ _ ⟨i, by simp [T.get, q]⟩
    · rw [if_pos (by simpa using c), if_pos (by simpa using c)]
      have c' : ¬ (v : Int) = x := by omega
      refine Tr.w fun s1 H1 hp _ kR => W.trim ?_
      obtain ⟨rfl, q⟩ := hp
      refine W.seq (W.chunk ?_)
      simp (disch := first|omega|exact zE rfl|exact zO|exact zL rfl) [c93_o2, zG, q]
      refine W.seq (W.chunk ?_)
      simp (disch := first|omega|exact zE rfl|exact zO|exact zL rfl) [zG, q]
      refine W.seq (W.block ?_)
      refine W.seq (W.chunk ?_)
      simp (disch := first|omega|exact zE rfl|exact zO|exact zL rfl) [c93_o3, zG, q]
      refine W.seq (W.chunk ?_)
      simp (disch := first|omega|exact zE rfl|exact zO|exact zL rfl) [c93_o4, zG, q, g, e1, e1', lg, c']
      refine W.chunk ?_
      simp (disch := first|omega|exact zE rfl|exact zO|exact zL rfl) [c93_o5, zG, q]
      refine W.chunk ?_
      simp (disch := first|omega|exact zE rfl|exact zO|exact zL rfl) [c93_o6, zG, q]
      exact kR _ _ (by simp [T.get, q])
  have fin : Tr tbl J (.trim [[], [false], [false, false, false], [true, false, false]] c93_b0) (fun s h => h = H ∧ s.get [] = .slice b 0 L.length w ∧ s.get [false] = G v ∧ s.get [false, false, false] = G L.length ∧ s.get [true, false, false] = G L.length) (.exit 0) (fun s h => True) := by
    generalize L.length = n at *
    refine Tr.w fun s1 H1 hp _ kR => W.trim ?_
    obtain ⟨rfl, q⟩ := hp
    refine W.seq (W.chunk ?_)
    simp (disch := first|omega|exact zE rfl|exact zO|exact zL rfl) [c93_o2, zG, q]
    refine W.seq (W.chunk ?_)
    simp (disch := first|omega|exact zE rfl|exact zO|exact zL rfl) [zG, q]
    exact kR _ _ trivial
  exact ⟨Tr.allT (P := fun i => (fun s h => h = H ∧ s.get [] = .slice b 0 L.length w ∧ s.get [false] = G v ∧ s.get [false, false, false] = G L.length ∧ s.get [true, false, false] = G i)) L.length (fun i hi hp => by have := key i hi; rw [if_pos hp, if_pos hp] at this; exact this) fin (by simp) _ 0 (by omega),
    Tr.allF (P := fun i => (fun s h => h = H ∧ s.get [] = .slice b 0 L.length w ∧ s.get [false] = G v ∧ s.get [false, false, false] = G L.length ∧ s.get [true, false, false] = G i)) L.length (fun i hi hp => by have := key i hi; rw [if_pos hp, if_pos hp] at this; exact this) (fun i hi hp => by have := key i hi; rw [if_neg (by rw [hp]; simp), if_neg (by rw [hp]; simp)] at this; exact this) (by simp) _ 0 (by omega)⟩
theorem c93_ok (J : CallF) (hJ : ∀ a h, J 93 a h = none) (h : Heap) {x : AV} (rv : RV h x (gn L)) (hn : L.length ≤ 1000000) : ∃ z own, CallsTo tbl J 93 [x, G v] h (z, own, false) ∧ (∃ k : Int, z = G k ∧ (decide (0 ≤ k) = decide (v ∈ L))) ∧ own = [] := by
  refine Tr.fny (Good := fun z own => (∃ k : Int, z = G k ∧ (decide (0 ≤ k) = decide (v ∈ L))) ∧ own = []) (cf := c93) (e := .ret) (s := T.set (T.set .leaf [] x) [false] (G v)) (by decide) rfl (hJ _ _) rfl rfl (by simp) ?_
  refine Tr.post (Q := fun s h => ∃ k : Int, s.get [true, false] = G k ∧ decide (0 ≤ k) = decide (v ∈ L)) (fun s h' q => by
    obtain ⟨k, e, q2⟩ := q
    exact ⟨[G k], by simp [c93, evRess, evRes, e], ⟨k, rfl, q2⟩, rfl⟩) ?_
  rcases rv.frame with ⟨rfl, e⟩ | ⟨b, w, rfl, g⟩
  · have : L = [] := by simpa [gn] using e
    subst this
    have l0 : Tr tbl J c93_l0 (fun s h' => h' = frameOf h ∧ s.get [] = .nils ∧ s.get [false] = G v ∧ s.get [false, false, false] = G 0 ∧ s.get [true, false, false] = G 0) (.exit 0) (fun s h => True) := by
      refine Tr.out ?_ (by simp)
      refine Tr.w fun s1 H1 hp _ kR => W.trim ?_
      obtain ⟨rfl, q⟩ := hp
      refine W.seq (W.chunk ?_)
      simp (disch := first|omega|exact zE rfl|exact zO|exact zL rfl) [c93_o2, zG, q]
      refine W.seq (W.chunk ?_)
      simp (disch := first|omega|exact zE rfl|exact zO|exact zL rfl) [zG, q]
      exact kR _ _ trivial
    refine Tr.w fun s1 H1 hp _ kR => ?_
    obtain ⟨rfl, rfl⟩ := hp
    have q : True := trivial
    refine W.seq (W.chunk ?_)
    simp (disch := first|omega|exact zE rfl|exact zO|exact zL rfl) [c93_o0, zG, q]
    refine W.assoc ?_
    refine W.seq (W.chunk ?_)
    simp (disch := first|omega|exact zE rfl|exact zO|exact zL rfl) [c93_o1, zG, q]
    refine W.seq (W.block ?_)
    refine W.use (l0) (by simp (disch := first|omega|exact zE rfl|exact zO|exact zL rfl) [zG, q]) fun s1 H1 hp => ?_
    try simp only [zW, if_true]
    refine W.seq (W.chunk ?_)
    simp (disch := first|omega|exact zE rfl|exact zO|exact zL rfl) [c93_o7, zG, q]
    refine W.ret ?_
    try simp only [zW, if_true]
    exact kR _ _ ⟨-1, by simp [T.get], by simp⟩
  · rw [gn_len]
    have l0 := c93_l (v := v) J g hn
    rw [nE_all] at l0
    clear g rv
    generalize L.length = n at *
    by_cases c : v ∈ L
    · have l0 := l0.2 (by simp [c])
      refine Tr.w fun s1 H1 hp _ kR => ?_
      obtain ⟨rfl, rfl⟩ := hp
      have q : True := trivial
      refine W.seq (W.chunk ?_)
      simp (disch := first|omega|exact zE rfl|exact zO|exact zL rfl) [c93_o0, zG, q]
      refine W.assoc ?_
      refine W.seq (W.chunk ?_)
      simp (disch := first|omega|exact zE rfl|exact zO|exact zL rfl) [c93_o1, zG, q]
      refine W.seq (W.block ?_)
      refine W.use (l0) (by simp (disch := first|omega|exact zE rfl|exact zO|exact zL rfl) [zG, q]) fun s1 H1 hp => ?_
      try simp only [zW, if_true]
      obtain ⟨z, e⟩ := hp
      exact kR _ _ ⟨z, e, by simp [c]⟩
    · have l0 := l0.1 (by simp [c])
      refine Tr.w fun s1 H1 hp _ kR => ?_
      obtain ⟨rfl, rfl⟩ := hp
      have q : True := trivial
      refine W.seq (W.chunk ?_)
      simp (disch := first|omega|exact zE rfl|exact zO|exact zL rfl) [c93_o0, zG, q]
      refine W.assoc ?_
      refine W.seq (W.chunk ?_)
      simp (disch := first|omega|exact zE rfl|exact zO|exact zL rfl) [c93_o1, zG, q]
      refine W.seq (W.block ?_)
      refine W.use (l0) (by simp (disch := first|omega|exact zE rfl|exact zO|exact zL rfl) [zG, q]) fun s1 H1 hp => ?_
      try simp only [zW, if_true]
      refine W.seq (W.chunk ?_)
      simp (disch := first|omega|exact zE rfl|exact zO|exact zL rfl) [c93_o7, zG, q]
      refine W.ret ?_
      try simp only [zW, if_true]
      exact kR _ _ ⟨-1, by simp [T.get], by simp [c]⟩
theorem c70_ok (J : CallF) (k93 : ∀ (h : Heap) (x : AV) (v : Nat) (L : List Nat), RV h x (gn L) → L.length ≤ 1000000 → ∃ k : Int, J 93 [x, G v] h = some (G k, [], false) ∧ decide (0 ≤ k) = decide (v ∈ L)) (hJ : ∀ a h, J 70 a h = none) (h : Heap) {x : AV} (rv : RV h x (gn L)) (hn : L.length ≤ 1000000) : CallsTo tbl J 70 [x, G v] h (.bool (decide (v ∈ L)), [], false) := by
  refine Tr.fnv (cf := c70) (e := .ret) (s := T.set (T.set .leaf [] x) [false] (G v)) (by decide) rfl (hJ _ _) rfl rfl rfl (by simp) ?_
  refine Tr.post (Q := (fun s h => s.get [true, false] = .bool (decide (v ∈ L)))) (fun s h q => by simp [c70, q]) ?_
  obtain ⟨k, e, hk⟩ := k93 (frameOf h) x v L rv.frame hn
  rw [← hk]
  clear hk
  refine Tr.w fun s1 H1 hp _ kR => ?_
  obtain ⟨rfl, rfl⟩ := hp
  have q : True := trivial
  by_cases c : 0 ≤ k
  · refine W.seq (W.chunk ?_)
    simp (disch := first|omega|exact zE rfl|exact zO|exact zL rfl) [c70_o0, zG, q]
    refine W.seq (W.chunk ?_)
    simp (disch := first|omega|exact zE rfl|exact zO|exact zL rfl) [c70_o1, zG, q, e, c]
    refine W.ret ?_
    try simp only [zW, if_true]
    exact kR _ _ (by simp [T.get, c])
  · refine W.seq (W.chunk ?_)
    simp (disch := first|omega|exact zE rfl|exact zO|exact zL rfl) [c70_o0, zG, q]
    refine W.seq (W.chunk ?_)
    simp (disch := first|omega|exact zE rfl|exact zO|exact zL rfl) [c70_o1, zG, q, e, c]
    refine W.ret ?_
    try simp only [zW, if_true]
    exact kR _ _ (by simp [T.get, c])
end
def Pre93 (b : AV × Nat × List Nat) (args : List AV) (h : Heap) : Prop := (RV h b.1 (gn b.2.2) ∧ b.2.2.length ≤ 1000000) ∧ args = [b.1, G b.2.1]
def Post93 (b : AV × Nat × List Nat) (h : Heap) (v : AV) (own : List AObj) : Prop := (∃ k : Int, v = G k ∧ (decide (0 ≤ k) = decide (b.2.1 ∈ b.2.2))) ∧ own = []
noncomputable def T42 : CallF := addK tbl T41 93 Pre93 Post93
theorem t42 : Sound Go.Proofs.Try.prog T42 := Sound.addK follows ok t41 (by decide) _ _
theorem k93 : ∀ (h : Heap) (x : AV) (v : Nat) (L : List Nat), RV h x (gn L) → L.length ≤ 1000000 → ∃ k : Int, T42 93 [x, G v] h = some (G k, [], false) ∧ decide (0 ≤ k) = decide (v ∈ L) := fun h x v L h1 h2 => by
  obtain ⟨z, own, e, ⟨k, rfl, hk⟩, rfl⟩ := addK_some (Pre := Pre93) (Post := Post93) (fun b args h hp => by
    obtain ⟨⟨h1, h2⟩, rfl⟩ := hp
    exact c93_ok T41 (fun _ _ => by simp (disch := decide) only [T1, T2, T3, T4, T5, T6, T7, T8, T9, T10, T11, T12, T13, T14, T15, T16, T17, T18, T19, T20, T21, T22, T23, T24, T25, T26, T27, T28, T29, T30, T31, T32, T33, T34, T35, T36, T37, T38, T39, T40, T41, addI_ne, addX_ne, addV_ne, addK_ne]; rfl) h h1 h2) (x, v, L) _ h ⟨⟨h1, h2⟩, rfl⟩
  exact ⟨k, e, hk⟩
def Post70 (b : AV × Nat × List Nat) (h : Heap) (v : AV) (own : List AObj) : Prop := v = .bool (decide (b.2.1 ∈ b.2.2)) ∧ own = []
noncomputable def T43 : CallF := addK tbl T42 70 Pre93 Post70
theorem t43 : Sound Go.Proofs.Try.prog T43 := Sound.addK follows ok t42 (by decide) _ _
abbrev K70 (J : CallF) : Prop := ∀ (h : Heap) (x : AV) (v : Nat) (L : List Nat), RV h x (gn L) → L.length ≤ 1000000 → J 70 [x, G v] h = some (.bool (decide (v ∈ L)), [], false)
theorem k70 : K70 T43 := fun h x v L h1 h2 => by
  obtain ⟨z, own, e, rfl, rfl⟩ := addK_some (Pre := Pre93) (Post := Post70) (fun b args h hp => by
    obtain ⟨⟨h1, h2⟩, rfl⟩ := hp
    exact ⟨_, _, c70_ok T42 k93 (fun _ _ => by simp (disch := decide) only [T1, T2, T3, T4, T5, T6, T7, T8, T9, T10, T11, T12, T13, T14, T15, T16, T17, T18, T19, T20, T21, T22, T23, T24, T25, T26, T27, T28, T29, T30, T31, T32, T33, T34, T35, T36, T37, T38, T39, T40, T41, T42, addI_ne, addX_ne, addV_ne, addK_ne]; rfl) h h1 h2, rfl, rfl⟩) (x, v, L) _ h ⟨⟨h1, h2⟩, rfl⟩
  exact e
def pE (S : List (List Nat)) (g : Nat → Nat) (i j : Nat) : Nat := ((List.range i).map fun i' => ((S.getD i' []).count j) * g i').sum
def ev (S : List (List Nat)) (f : Nat) : Nat → Nat → Nat
  | 0, j => if j = f then 1 else 0
  | k + 1, j => pE S (ev S f k) S.length j
def pT (S : List (List Nat)) (g : Nat → Nat) (i t j : Nat) : Nat := pE S g i j + (((S.getD i []).take t).count j) * g i
theorem pE_succ (S : List (List Nat)) (g : Nat → Nat) (i j : Nat) : pE S g (i + 1) j = pE S g i j + ((S.getD i []).count j) * g i := by
  unfold pE
  rw [List.range_succ, List.map_append, List.sum_append]
  simp
theorem pE_mono (S : List (List Nat)) (g : Nat → Nat) (j : Nat) : ∀ d i, pE S g i j ≤ pE S g (i + d) j
  | 0, i => Nat.le_refl _
  | d + 1, i => by
    refine Nat.le_trans (pE_mono S g j d i) ?_
    rw [← Nat.add_assoc, pE_succ]
    omega
theorem pT_0 (S : List (List Nat)) (g : Nat → Nat) (i j : Nat) : pT S g i 0 j = pE S g i j := by simp [pT]
theorem pT_n (S : List (List Nat)) (g : Nat → Nat) (i j : Nat) : pT S g i (S.getD i []).length j = pE S g (i + 1) j := by
  unfold pT
  rw [List.take_length, pE_succ]
theorem pT_z (S : List (List Nat)) (g : Nat → Nat) (i j : Nat) (h : g i = 0) : pE S g (i + 1) j = pE S g i j := by
  rw [pE_succ, h, Nat.mul_zero, Nat.add_zero]
theorem pT_succ (S : List (List Nat)) (g : Nat → Nat) (i j : Nat) {t : Nat} (h : t < (S.getD i []).length) : pT S g i (t + 1) j = if j = (S.getD i []).getD t 0 then pT S g i t j + g i else pT S g i t j := by
  unfold pT
  generalize S.getD i [] = L at *
  rw [List.take_add_one, List.getElem?_eq_getElem h, List.getD_eq_getElem?_getD, List.getElem?_eq_getElem h, List.count_append]
  show pE S g i j + (List.count j (List.take t L) + List.count j [L[t]]) * g i = _
  simp only [Option.getD_some]
  by_cases e : j = L[t]
  · rw [if_pos e, ← e, List.count_singleton_self, Nat.add_mul]; omega
  · rw [if_neg e, List.count_cons_of_ne (fun h => e h.symm), List.count_nil, Nat.add_zero]
theorem pT_le (S : List (List Nat)) (g : Nat → Nat) (i t j : Nat) (hi : i < S.length) : pT S g i t j ≤ pE S g S.length j := by
  have h1 : pT S g i t j ≤ pE S g (i + 1) j := by
    rw [pE_succ]
    unfold pT
    exact Nat.add_le_add_left (Nat.mul_le_mul_right _ (List.Sublist.count_le j (List.take_sublist t _))) _
  have h2 := pE_mono S g j (S.length - (i + 1)) (i + 1)
  rw [show i + 1 + (S.length - (i + 1)) = S.length by omega] at h2
  omega
def qE (S : List (List Nat)) (g : Nat → Nat) (i t : Nat) : Bool := decide (pT S g i (t + 1) ((S.getD i []).getD t 0) ≤ 1152921504606846976)
def rE (S : List (List Nat)) (g : Nat → Nat) (i : Nat) : Bool := decide (g i = 0) || af (qE S g i) 0 (S.getD i []).length
def vE (S : List (List Nat)) (f k : Nat) : List Nat := lN (ev S f k) S.length
theorem vE_len (S : List (List Nat)) (f k : Nat) : (vE S f k).length = S.length := by simp [vE, lN]
theorem lN_mem {f : Nat → Nat} {n i : Nat} (h : i < n) : f i ∈ lN f n := List.mem_map.2 ⟨i, List.mem_range.2 h, rfl⟩
section
variable {S : List (List Nat)} {p w26 w27 : Nat}
theorem c75_l0_ok (J : CallF) {g : Nat → Nat} {Hk : Heap} {b : Nat} (hb : Hk.size ≤ b) (hN : Hk.N ≤ b) (os : OkS S) {i : Nat} (hi : i < S.length) (hg : g i ≤ 1152921504606846976) {y : AV} (rv : RV Hk y (gn (S.getD i []))) {xn : AV} :
    (af (qE S g i) 0 (S.getD i []).length = true → Tr tbl J c75_l0 (fun s h => (BZ Hk h b S.length (pT S g i 0) ∧ ∀ u, pT S g i 0 u ≤ 1152921504606846976) ∧ s.get [] = .ptr p 0 3 ∧ s.get [false, true, false] = .slice b 0 S.length S.length ∧ s.get [false, false, true] = G (g i) ∧ s.get [true, true, false, true] = G w26 ∧ s.get [false, false, true, true] = G w27 ∧ s.get [false, false, true, false, false] = xn ∧ s.get [true, false, true, false, false] = G S.length ∧ s.get [false, true, true, false, false] = G i ∧ s.get [true, true, false, false, true] = y ∧ s.get [false, false, true, false, true] = G (S.getD i []).length ∧ s.get [true, false, true, false, true] = G ((0 : Nat) : Int)) (.exit 4)
      (fun s h => (BZ Hk h b S.length (pT S g i (S.getD i []).length) ∧ ∀ u, pT S g i (S.getD i []).length u ≤ 1152921504606846976) ∧ s.get [] = .ptr p 0 3 ∧ s.get [false, true, false] = .slice b 0 S.length S.length ∧ s.get [true, true, false, true] = G w26 ∧ s.get [false, false, true, true] = G w27 ∧ s.get [false, false, true, false, false] = xn ∧ s.get [true, false, true, false, false] = G S.length ∧ s.get [false, true, true, false, false] = G i)) ∧
    (af (qE S g i) 0 (S.getD i []).length = false → Tr tbl J c75_l0 (fun s h => (BZ Hk h b S.length (pT S g i 0) ∧ ∀ u, pT S g i 0 u ≤ 1152921504606846976) ∧ s.get [] = .ptr p 0 3 ∧ s.get [false, true, false] = .slice b 0 S.length S.length ∧ s.get [false, false, true] = G (g i) ∧ s.get [true, true, false, true] = G w26 ∧ s.get [false, false, true, true] = G w27 ∧ s.get [false, false, true, false, false] = xn ∧ s.get [true, false, true, false, false] = G S.length ∧ s.get [false, true, true, false, false] = G i ∧ s.get [true, true, false, false, true] = y ∧ s.get [false, false, true, false, true] = G (S.getD i []).length ∧ s.get [true, false, true, false, true] = G ((0 : Nat) : Int)) .ret (fun s h => s.get [true, true] = .nils ∧ s.get [false, false, false] = .bool false)) := by
  have l2 := os.len i
  have n2 := os.n
  have key : ∀ t, t < (S.getD i []).length → Tr tbl J (.trim [[], [false, true, false], [false, false, true], [true, true, false, true], [false, false, true, true], [false, false, true, false, false], [true, false, true, false, false], [false, true, true, false, false], [true, true, false, false, true], [false, false, true, false, true], [true, false, true, false, true]] c75_b0)
      (fun s h => (BZ Hk h b S.length (pT S g i t) ∧ ∀ u, pT S g i t u ≤ 1152921504606846976) ∧ s.get [] = .ptr p 0 3 ∧ s.get [false, true, false] = .slice b 0 S.length S.length ∧ s.get [false, false, true] = G (g i) ∧ s.get [true, true, false, true] = G w26 ∧ s.get [false, false, true, true] = G w27 ∧ s.get [false, false, true, false, false] = xn ∧ s.get [true, false, true, false, false] = G S.length ∧ s.get [false, true, true, false, false] = G i ∧ s.get [true, true, false, false, true] = y ∧ s.get [false, false, true, false, true] = G (S.getD i []).length ∧ s.get [true, false, true, false, true] = G t)
      (if qE S g i t then .normal else .ret)
      (if qE S g i t then (fun s h => (BZ Hk h b S.length (pT S g i (t + 1)) ∧ ∀ u, pT S g i (t + 1) u ≤ 1152921504606846976) ∧ s.get [] = .ptr p 0 3 ∧ s.get [false, true, false] = .slice b 0 S.length S.length ∧ s.get [false, false, true] = G (g i) ∧ s.get [true, true, false, true] = G w26 ∧ s.get [false, false, true, true] = G w27 ∧ s.get [false, false, true, false, false] = xn ∧ s.get [true, false, true, false, false] = G S.length ∧ s.get [false, true, true, false, false] = G i ∧ s.get [true, true, false, false, true] = y ∧ s.get [false, false, true, false, true] = G (S.getD i []).length ∧ s.get [true, false, true, false, true] = G ((t + 1 : Nat) : Int)) else (fun s h => s.get [true, true] = .nils ∧ s.get [false, false, false] = .bool false)) := fun t ht => by
    obtain ⟨by', vy, rfl, gy⟩ : ∃ b v, y = .slice b 0 (S.getD i []).length v ∧ Hk.get b = .cells 1 v (gn (S.getD i [])) := by
      rcases rv with ⟨_, e⟩ | ⟨b, v, e, g⟩
      · have : (gn (S.getD i [])).length = 0 := by rw [e]; rfl
        rw [gn_len] at this; omega
      · rw [gn_len] at e; exact ⟨b, v, e, g⟩
    have e1 := gn_at ht
    have e1' := getI e1
    have lg := gn_len (S.getD i [])
    have hj : (S.getD i []).getD t 0 < S.length := os.lt i _ (by
      rw [List.getD_eq_getElem?_getD (l := S.getD i []), List.getElem?_eq_getElem ht]; exact List.getElem_mem _)
    have e2 := lN_at (pT S g i t) hj
    have e2' := getI e2
    have l3 := lN_len (pT S g i t) S.length
    have sx := fun u => pT_succ S g i u ht
    have sj := sx ((S.getD i []).getD t 0)
    rw [if_pos rfl] at sj
    have fx : (gn (lN (pT S g i t) S.length)).set ((S.getD i []).getD t 0) (G (pT S g i t ((S.getD i []).getD t 0) + g i : Nat)) = gn (lN (pT S g i (t + 1)) S.length) := by
      rw [lN_set _ hj]
      congr 1
      apply lN_ext
      intro u _
      rw [sx u]
      by_cases e : u = (S.getD i []).getD t 0
      · rw [if_pos e, if_pos e, e]
      · rw [if_neg e, if_neg e]
    have inv : pT S g i t ((S.getD i []).getD t 0) + g i ≤ 1152921504606846976 → (∀ u, pT S g i t u ≤ 1152921504606846976) → ∀ u, pT S g i (t + 1) u ≤ 1152921504606846976 := fun h1 h2 u => by
      rw [sx u]
      split
      · rename_i e; rw [e]; exact h1
      · exact h2 u
    unfold qE
    rw [sj]
    have main : ∀ h, BZ Hk h b S.length (pT S g i t) → h.get by' = .cells 1 vy (gn (S.getD i [])) ∧ h.get b = .cells 1 S.length (gn (lN (pT S g i t) S.length)) ∧ Eff.app (.put b S.length ((S.getD i []).getD t 0) [G (pT S g i t ((S.getD i []).getD t 0) + g i : Nat)]) h = some (h.upd b (.cells 1 S.length (gn (lN (pT S g i (t + 1)) S.length)))) ∧ BZ Hk (h.upd b (.cells 1 S.length (gn (lN (pT S g i (t + 1)) S.length)))) b S.length (pT S g i (t + 1)) := fun h bz => by
      have hNh : h.N ≤ b := by rw [bz.kp.N]; exact hN
      refine ⟨bz.kp.at gy (by simp) id, bz.g, ?_, ⟨bz.kp.updn b _ hNh hb, upd_same _ _ _ hNh (get_lt bz.g (by simp))⟩⟩
      rw [put_gen h b S.length _ 1 _ _ hNh bz.g (by rw [lN_len, List.length_singleton]; omega)]
      simp only [putAt]
      rw [fx]
    clear fx sx sj rv gy
    generalize hbz : gn (lN (pT S g i (t + 1)) S.length) = cm' at *
    generalize gn (lN (pT S g i t) S.length) = cm at *
    generalize hcs : gn (S.getD i []) = cs at *
    by_cases c : pT S g i t ((S.getD i []).getD t 0) + g i ≤ 1152921504606846976
    · rw [decide_eq_true c, if_pos rfl, if_pos rfl]
      refine Tr.w fun s1 H1 hp _ kR => W.trim ?_
      obtain ⟨⟨bz, iv⟩, q⟩ := hp
      obtain ⟨m1, m2, m3, m4⟩ := main _ bz
      have iv2 := inv c iv
      have ivj := iv ((S.getD i []).getD t 0)
      have a1 : ((pT S g i t ((S.getD i []).getD t 0) + g i : Nat) : Int) = (pT S g i t ((S.getD i []).getD t 0) : Int) + g i := by omega
      rw [a1] at m3
      clear main inv bz iv hbz hcs a1
      generalize pT S g i t ((S.getD i []).getD t 0) = v at *
      generalize (S.getD i []).getD t 0 = j at *
      generalize g i = gi at *
      generalize (S.getD i []).length = l at *
      generalize hnn : S.length = n at *
      refine W.seq (W.chunk ?_)
      simp (disch := first|omega|exact zE rfl|exact zO|exact zL rfl) [c75_o11, zG, q]
      refine W.seq (W.chunk ?_)
      simp (disch := first|omega|exact zE rfl|exact zO|exact zL rfl) [zG, q]
      refine W.seq (W.block ?_)
      refine W.seq (W.chunk ?_)
      simp (disch := first|omega|exact zE rfl|exact zO|exact zL rfl) [c75_o12, zG, q, m1, e1, e1', lg]
      refine W.assoc ?_
      refine W.seq (W.chunk ?_)
      simp (disch := first|omega|exact zE rfl|exact zO|exact zL rfl) [c75_o13, zG, q, m2, e2, e2', l3]
      refine W.seq (W.chunk ?_)
      simp (disch := first|omega|exact zE rfl|exact zO|exact zL rfl) [c75_o14, zG, q]
      refine W.chunk ?_
      simp (disch := first|omega|exact zE rfl|exact zO|exact zL rfl) [c75_o15, zG, q, m2, e2, e2', l3, m3]
      refine W.chunk ?_
      simp (disch := first|omega|exact zE rfl|exact zO|exact zL rfl) [c75_o16, zG, q]
      exact kR _ _ ⟨⟨m4, iv2⟩, by simp [T.get, q]⟩
    · rw [decide_eq_false c, if_neg (by simp), if_neg (by simp)]
      refine Tr.w fun s1 H1 hp _ kR => W.trim ?_
      obtain ⟨⟨bz, iv⟩, q⟩ := hp
      obtain ⟨m1, m2, m3, m4⟩ := main _ bz
      have ivj := iv ((S.getD i []).getD t 0)
      clear main inv bz iv hbz hcs m3 m4
      generalize pT S g i t ((S.getD i []).getD t 0) = v at *
      generalize (S.getD i []).getD t 0 = j at *
      generalize g i = gi at *
      generalize (S.getD i []).length = l at *
      generalize hnn : S.length = n at *
      refine W.seq (W.chunk ?_)
      simp (disch := first|omega|exact zE rfl|exact zO|exact zL rfl) [c75_o11, zG, q]
      refine W.seq (W.chunk ?_)
      simp (disch := first|omega|exact zE rfl|exact zO|exact zL rfl) [zG, q]
      refine W.seq (W.block ?_)
      refine W.seq (W.chunk ?_)
      simp (disch := first|omega|exact zE rfl|exact zO|exact zL rfl) [c75_o12, zG, q, m1, e1, e1', lg]
      refine W.assoc ?_
      refine W.seq (W.chunk ?_)
      simp (disch := first|omega|exact zE rfl|exact zO|exact zL rfl) [c75_o13, zG, q, m2, e2, e2', l3]
      refine W.seq (W.chunk ?_)
      simp (disch := first|omega|exact zE rfl|exact zO|exact zL rfl) [c75_o14, zG, q]
      exact kR _ _ (by simp [T.get, q])
  have fin : Tr tbl J (.trim [[], [false, true, false], [false, false, true], [true, true, false, true], [false, false, true, true], [false, false, true, false, false], [true, false, true, false, false], [false, true, true, false, false], [true, true, false, false, true], [false, false, true, false, true], [true, false, true, false, true]] c75_b0)
      (fun s h => (BZ Hk h b S.length (pT S g i (S.getD i []).length) ∧ ∀ u, pT S g i (S.getD i []).length u ≤ 1152921504606846976) ∧ s.get [] = .ptr p 0 3 ∧ s.get [false, true, false] = .slice b 0 S.length S.length ∧ s.get [false, false, true] = G (g i) ∧ s.get [true, true, false, true] = G w26 ∧ s.get [false, false, true, true] = G w27 ∧ s.get [false, false, true, false, false] = xn ∧ s.get [true, false, true, false, false] = G S.length ∧ s.get [false, true, true, false, false] = G i ∧ s.get [true, true, false, false, true] = y ∧ s.get [false, false, true, false, true] = G (S.getD i []).length ∧ s.get [true, false, true, false, true] = G (S.getD i []).length) (.exit 4)
      (fun s h => (BZ Hk h b S.length (pT S g i (S.getD i []).length) ∧ ∀ u, pT S g i (S.getD i []).length u ≤ 1152921504606846976) ∧ s.get [] = .ptr p 0 3 ∧ s.get [false, true, false] = .slice b 0 S.length S.length ∧ s.get [true, true, false, true] = G w26 ∧ s.get [false, false, true, true] = G w27 ∧ s.get [false, false, true, false, false] = xn ∧ s.get [true, false, true, false, false] = G S.length ∧ s.get [false, true, true, false, false] = G i) := by
    refine Tr.w fun s1 H1 hp _ kR => W.trim ?_
    obtain ⟨bz, q⟩ := hp
    generalize hl : (S.getD i []).length = l at *
    refine W.seq (W.chunk ?_)
    simp (disch := first|omega|exact zE rfl|exact zO|exact zL rfl) [c75_o11, zG, q]
    refine W.seq (W.chunk ?_)
    simp (disch := first|omega|exact zE rfl|exact zO|exact zL rfl) [zG, q]
    exact kR _ _ ⟨bz, by simp [T.get, q]⟩
  exact ⟨fun h => Tr.allT (P := fun t => (fun s h => (BZ Hk h b S.length (pT S g i t) ∧ ∀ u, pT S g i t u ≤ 1152921504606846976) ∧ s.get [] = .ptr p 0 3 ∧ s.get [false, true, false] = .slice b 0 S.length S.length ∧ s.get [false, false, true] = G (g i) ∧ s.get [true, true, false, true] = G w26 ∧ s.get [false, false, true, true] = G w27 ∧ s.get [false, false, true, false, false] = xn ∧ s.get [true, false, true, false, false] = G S.length ∧ s.get [false, true, true, false, false] = G i ∧ s.get [true, true, false, false, true] = y ∧ s.get [false, false, true, false, true] = G (S.getD i []).length ∧ s.get [true, false, true, false, true] = G t)) _ (fun i hi hp => by have := key i hi; rw [if_pos hp, if_pos hp] at this; exact this) fin (by simp) _ 0 (by omega) h,
    fun h => Tr.allF (P := fun t => (fun s h => (BZ Hk h b S.length (pT S g i t) ∧ ∀ u, pT S g i t u ≤ 1152921504606846976) ∧ s.get [] = .ptr p 0 3 ∧ s.get [false, true, false] = .slice b 0 S.length S.length ∧ s.get [false, false, true] = G (g i) ∧ s.get [true, true, false, true] = G w26 ∧ s.get [false, false, true, true] = G w27 ∧ s.get [false, false, true, false, false] = xn ∧ s.get [true, false, true, false, false] = G S.length ∧ s.get [false, true, true, false, false] = G i ∧ s.get [true, true, false, false, true] = y ∧ s.get [false, false, true, false, true] = G (S.getD i []).length ∧ s.get [true, false, true, false, true] = G t)) _ (fun i hi hp => by have := key i hi; rw [if_pos hp, if_pos hp] at this; exact this) (fun i hi hp => by have := key i hi; rw [if_neg (by rw [hp]; simp), if_neg (by rw [hp]; simp)] at this; exact this) (by simp) _ 0 (by omega) h⟩
end
section
variable {S : List (List Nat)} {p w26 w27 : Nat}
abbrev E1P (S : List (List Nat)) (p w26 w27 b bn : Nat) (g : Nat → Nat) (Hk : Heap) (i : Nat) : SP := fun s h => (BZ Hk h b S.length (pE S g i) ∧ ∀ u, pE S g i u ≤ 1152921504606846976) ∧ s.get [] = .ptr p 0 3 ∧ s.get [false, true, false] = .slice b 0 S.length S.length ∧ s.get [true, true, false, true] = G w26 ∧ s.get [false, false, true, true] = G w27 ∧ s.get [false, false, true, false, false] = .slice bn 0 S.length S.length ∧ s.get [true, false, true, false, false] = G S.length ∧ s.get [false, true, true, false, false] = G i
abbrev E1Q (S : List (List Nat)) (p w26 w27 b : Nat) (g : Nat → Nat) (Hk : Heap) : SP := fun s h => (BZ Hk h b S.length (pE S g S.length) ∧ ∀ u, pE S g S.length u ≤ 1152921504606846976) ∧ s.get [] = .ptr p 0 3 ∧ s.get [false, true, false] = .slice b 0 S.length S.length ∧ s.get [true, true, false, true] = G w26 ∧ s.get [false, false, true, true] = G w27
theorem bz_ext {Hk h : Heap} {b n : Nat} {f g : Nat → Nat} (e : ∀ u, f u = g u) : (BZ Hk h b n f ∧ ∀ u, f u ≤ 1152921504606846976) ↔ (BZ Hk h b n g ∧ ∀ u, g u ≤ 1152921504606846976) := by
  have : f = g := funext e
  rw [this]
theorem c75_b1_ok (J : CallF) {g : Nat → Nat} {Hk : Heap} {b bn : Nat} (hb : Hk.size ≤ b) (hN : Hk.N ≤ b) (os : OkS S) (lf : LF Hk p S) (gn0 : Hk.get bn = .cells 1 S.length (gn (lN g S.length))) (hg : ∀ i, i < S.length → g i ≤ 1152921504606846976) {i : Nat} (hi : i < S.length) :
    (rE S g i = true → Tr tbl J (.trim [[], [false, true, false], [true, true, false, true], [false, false, true, true], [false, false, true, false, false], [true, false, true, false, false], [false, true, true, false, false]] c75_b1) (E1P S p w26 w27 b bn g Hk i) .normal (E1P S p w26 w27 b bn g Hk (i + 1))) ∧
    (rE S g i = false → Tr tbl J (.trim [[], [false, true, false], [true, true, false, true], [false, false, true, true], [false, false, true, false, false], [true, false, true, false, false], [false, true, true, false, false]] c75_b1) (E1P S p w26 w27 b bn g Hk i) .ret (fun s h => s.get [true, true] = .nils ∧ s.get [false, false, false] = .bool false)) := by
  have e1 := lN_at g hi
  have e1' := getI e1
  have l3 := lN_len g S.length
  have n2 := os.n
  have hgi := hg i hi
  obtain ⟨x, mb, nb, rs, g1, sx, g3, g4⟩ := lf
  obtain ⟨y, ey, rv⟩ := g4 i hi
  have ey' := getI ey
  have lrs : i < rs.length := (List.getElem?_eq_some_iff.1 ey).1
  have sy := rv.sl
  rw [gn_len] at sy
  have l0 := c75_l0_ok (p := p) (w26 := w26) (w27 := w27) (g := g) (xn := .slice bn 0 S.length S.length) J hb hN os hi hgi rv
  have rr : rE S g i = (decide (g i = 0) || af (qE S g i) 0 (S.getD i []).length) := rfl
  rw [rr]
  constructor
  · intro hr
    refine Tr.w fun s1 H1 hp _ kR => W.trim ?_
    obtain ⟨bz, q⟩ := hp
    have a1 := bz.1.kp.at gn0 (by simp) id
    have a2 := bz.1.kp.at g1 (by simp) id
    have a3 := bz.1.kp.at g3 (by simp) id
    dsimp only [E1P] at kR
    by_cases c : g i = 0
    · have bz2 := (bz_ext fun u => pT_z S g i u c).2 bz
      rw [c] at e1 e1'
      clear l0 bz hr rr rv g4 gn0 sy
      generalize gn (lN g S.length) = cs at *
      generalize hnn : S.length = n at *
      refine W.seq (W.chunk ?_)
      simp (disch := first|omega|exact zE rfl|exact zO|exact zL rfl) [c75_o7, zG, q]
      refine W.seq (W.chunk ?_)
      simp (disch := first|omega|exact zE rfl|exact zO|exact zL rfl) [zG, q]
      refine W.seq (W.block ?_)
      refine W.seq (W.chunk ?_)
      simp (disch := first|omega|exact zE rfl|exact zO|exact zL rfl) [c75_o8, zG, q, a1, e1, e1', l3]
      refine W.assoc ?_
      refine W.seq (W.chunk ?_)
      simp (disch := first|omega|exact zE rfl|exact zO|exact zL rfl) [c75_o9, zG, q]
      refine W.seq (W.cond (v := true) (by simp (disch := first|omega|exact zE rfl|exact zO|exact zL rfl) [zG, q]) ?_)
      simp only [if_true, if_false, Bool.false_eq_true]
      refine W.exit ?_
      try simp only [zW, if_true]
      refine W.chunk ?_
      simp (disch := first|omega|exact zE rfl|exact zO|exact zL rfl) [c75_o17, zG, q]
      exact kR _ _ ⟨bz2, by simp [T.get, q]⟩
    · rw [decide_eq_false c, Bool.false_or] at hr
      have l0 := l0.1 hr
      have bz0 := (bz_ext fun u => pT_0 S g i u).2 bz
      have fin : ∀ h, (BZ Hk h b S.length (pT S g i (S.getD i []).length) ∧ ∀ u, pT S g i (S.getD i []).length u ≤ 1152921504606846976) → (BZ Hk h b S.length (pE S g (i + 1)) ∧ ∀ u, pE S g (i + 1) u ≤ 1152921504606846976) := fun h z => (bz_ext fun u => pT_n S g i u).1 z
      clear bz hr rr rv g4 gn0
      generalize gn (lN g S.length) = cs at *
      generalize (S.getD i []).length = l at *
      generalize hnn : S.length = n at *
      generalize g i = gi at *
      rcases sy with ⟨rfl, rfl⟩ | ⟨b1, v1, rfl⟩
      all_goals
        refine W.seq (W.chunk ?_)
        simp (disch := first|omega|exact zE rfl|exact zO|exact zL rfl) [c75_o7, zG, q]
        refine W.seq (W.chunk ?_)
        simp (disch := first|omega|exact zE rfl|exact zO|exact zL rfl) [zG, q]
        refine W.seq (W.block ?_)
        refine W.seq (W.chunk ?_)
        simp (disch := first|omega|exact zE rfl|exact zO|exact zL rfl) [c75_o8, zG, q, a1, e1, e1', l3]
        refine W.assoc ?_
        refine W.seq (W.chunk ?_)
        simp (disch := first|omega|exact zE rfl|exact zO|exact zL rfl) [c75_o9, zG, q]
        refine W.seq (W.cond (v := false) (by simp (disch := first|omega|exact zE rfl|exact zO|exact zL rfl) [zG, q]) ?_)
        simp only [if_true, if_false, Bool.false_eq_true]
        refine W.skip ?_
        try simp only [zW, if_true]
        refine W.seq (W.chunk ?_)
        simp (disch := first|omega|exact zE rfl|exact zO|exact zL rfl) [c75_o10, zG, q, a2, a3, ey, ey']
        refine W.block ?_
        refine W.use (l0) (by simp (disch := first|omega|exact zE rfl|exact zO|exact zL rfl) [zG, q, bz0.1, bz0.2]) fun s1 H1 hp => ?_
        obtain ⟨z, q⟩ := hp
        try simp only [zW, if_true]
        refine W.chunk ?_
        simp (disch := first|omega|exact zE rfl|exact zO|exact zL rfl) [c75_o17, zG, q]
        exact kR _ _ ⟨fin _ z, by simp [T.get, q]⟩
  · intro hr
    refine Tr.w fun s1 H1 hp _ kR => W.trim ?_
    obtain ⟨bz, q⟩ := hp
    have a1 := bz.1.kp.at gn0 (by simp) id
    have a2 := bz.1.kp.at g1 (by simp) id
    have a3 := bz.1.kp.at g3 (by simp) id
    rw [Bool.or_eq_false_iff, decide_eq_false_iff_not] at hr
    obtain ⟨c, hr⟩ := hr
    have l0 := l0.2 hr
    have bz0 := (bz_ext fun u => pT_0 S g i u).2 bz
    clear bz rr rv g4 gn0
    generalize gn (lN g S.length) = cs at *
    have lz : (S.getD i []).length ≠ 0 := fun e => by rw [e] at hr; cases hr
    clear hr
    generalize (S.getD i []).length = l at *
    generalize hnn : S.length = n at *
    generalize g i = gi at *
    rcases sy with ⟨rfl, rfl⟩ | ⟨b1, v1, rfl⟩
    · exact absurd rfl lz
    · refine W.seq (W.chunk ?_)
      simp (disch := first|omega|exact zE rfl|exact zO|exact zL rfl) [c75_o7, zG, q]
      refine W.seq (W.chunk ?_)
      simp (disch := first|omega|exact zE rfl|exact zO|exact zL rfl) [zG, q]
      refine W.seq (W.block ?_)
      refine W.seq (W.chunk ?_)
      simp (disch := first|omega|exact zE rfl|exact zO|exact zL rfl) [c75_o8, zG, q, a1, e1, e1', l3]
      refine W.assoc ?_
      refine W.seq (W.chunk ?_)
      simp (disch := first|omega|exact zE rfl|exact zO|exact zL rfl) [c75_o9, zG, q]
      refine W.seq (W.cond (v := false) (by simp (disch := first|omega|exact zE rfl|exact zO|exact zL rfl) [zG, q]) ?_)
      simp only [if_true, if_false, Bool.false_eq_true]
      refine W.skip ?_
      try simp only [zW, if_true]
      refine W.seq (W.chunk ?_)
      simp (disch := first|omega|exact zE rfl|exact zO|exact zL rfl) [c75_o10, zG, q, a2, a3, ey, ey']
      refine W.block ?_
      refine W.use (l0) (by simp (disch := first|omega|exact zE rfl|exact zO|exact zL rfl) [zG, q, bz0.1, bz0.2]) fun s1 H1 hp => ?_
      try simp only [zW, if_true]
      exact kR _ _ hp
theorem c75_l1_ok (J : CallF) {g : Nat → Nat} {Hk : Heap} {b bn : Nat} (hb : Hk.size ≤ b) (hN : Hk.N ≤ b) (os : OkS S) (lf : LF Hk p S) (gn0 : Hk.get bn = .cells 1 S.length (gn (lN g S.length))) (hg : ∀ i, i < S.length → g i ≤ 1152921504606846976) :
    (af (rE S g) 0 S.length = true → Tr tbl J c75_l1 (E1P S p w26 w27 b bn g Hk 0) (.exit 2) (E1Q S p w26 w27 b g Hk)) ∧
    (af (rE S g) 0 S.length = false → Tr tbl J c75_l1 (E1P S p w26 w27 b bn g Hk 0) .ret (fun s h => s.get [true, true] = .nils ∧ s.get [false, false, false] = .bool false)) := by
  have fin : Tr tbl J (.trim [[], [false, true, false], [true, true, false, true], [false, false, true, true], [false, false, true, false, false], [true, false, true, false, false], [false, true, true, false, false]] c75_b1) (E1P S p w26 w27 b bn g Hk S.length) (.exit 2) (E1Q S p w26 w27 b g Hk) := by
    refine Tr.w fun s1 H1 hp _ kR => W.trim ?_
    obtain ⟨bz, q⟩ := hp
    dsimp only [E1Q] at kR
    generalize hnn : S.length = n at *
    refine W.seq (W.chunk ?_)
    simp (disch := first|omega|exact zE rfl|exact zO|exact zL rfl) [c75_o7, zG, q]
    refine W.seq (W.chunk ?_)
    simp (disch := first|omega|exact zE rfl|exact zO|exact zL rfl) [zG, q]
    exact kR _ _ ⟨bz, by simp [T.get, q]⟩
  exact ⟨fun h => Tr.allT (P := E1P S p w26 w27 b bn g Hk) _ (fun i hi hp => (c75_b1_ok J hb hN os lf gn0 hg hi).1 hp) fin (by simp) _ 0 (by omega) h,
    fun h => Tr.allF (P := E1P S p w26 w27 b bn g Hk) _ (fun i hi hp => (c75_b1_ok J hb hN os lf gn0 hg hi).1 hp) (fun i hi hp => (c75_b1_ok J hb hN os lf gn0 hg hi).2 hp) (by simp) _ 0 (by omega) h⟩
theorem rE_of {g : Nat → Nat} (os : OkS S) (h : (lN (pE S g S.length) S.length).sum ≤ 1152921504606846976) : af (rE S g) 0 S.length = true := by
  rw [af_iff]
  intro i _ hi
  unfold rE
  by_cases c : g i = 0
  · rw [decide_eq_true c, Bool.true_or]
  · rw [decide_eq_false c, Bool.false_or, af_iff]
    intro t _ ht
    unfold qE
    rw [decide_eq_true_eq]
    have hj : (S.getD i []).getD t 0 < S.length := os.lt i _ (by
      rw [List.getD_eq_getElem?_getD (l := S.getD i []), List.getElem?_eq_getElem (by omega)]; exact List.getElem_mem _)
    have h1 := pT_le S g i (t + 1) ((S.getD i []).getD t 0) (by omega)
    have h2 := sum_mem (lN_mem (f := pE S g S.length) hj)
    omega
def okE (S : List (List Nat)) (f nn : Nat) : Bool := af (fun k => decide ((vE S f (k + 1)).sum ≤ 1152921504606846976)) 0 (nn - 1)
theorem vE_succ (S : List (List Nat)) (f k : Nat) : vE S f (k + 1) = lN (pE S (ev S f k) S.length) S.length := rfl
abbrev E2P (S : List (List Nat)) (p f N : Nat) (Hb : Heap) (k : Nat) : SP := fun s h => ∃ bn, (Kp (fun _ => False) Hb h ∧ h.get bn = .cells 1 S.length (gn (vE S f k)) ∧ Hb.size ≤ bn ∧ ∀ i, i < S.length → ev S f k i ≤ 1152921504606846976) ∧ s.get [] = .ptr p 0 3 ∧ s.get [true, false, false] = .slice bn 0 S.length S.length ∧ s.get [true, true, false, true] = G N ∧ s.get [false, false, true, true] = G k
theorem c75_b2_ok (J : CallF) (k63 : K63 J) {f N : Nat} {Hb : Heap} (os : OkS S) (lf : LF Hb p S) {k : Nat} (hk : k < N) (N40 : N ≤ 40) :
    ((vE S f (k + 1)).sum ≤ 1152921504606846976 → Tr tbl J (.trim [[], [true, false, false], [true, true, false, true], [false, false, true, true]] c75_b2) (E2P S p f N Hb k) .normal (E2P S p f N Hb (k + 1))) ∧
    (¬ (vE S f (k + 1)).sum ≤ 1152921504606846976 → Tr tbl J (.trim [[], [true, false, false], [true, true, false, true], [false, false, true, true]] c75_b2) (E2P S p f N Hb k) .ret (fun s h => s.get [true, true] = .nils ∧ s.get [false, false, false] = .bool false)) := by
  have n2 := os.n
  have main : ∀ (s1 : T) (H1 : Heap) (Q : PQ) (bn : Nat), Kp (fun _ => False) Hb H1 → H1.get bn = .cells 1 S.length (gn (vE S f k)) → (∀ i, i < S.length → ev S f k i ≤ 1152921504606846976) → (s1.get [] = .ptr p 0 3 ∧ s1.get [true, false, false] = .slice bn 0 S.length S.length ∧ s1.get [true, true, false, true] = G N ∧ s1.get [false, false, true, true] = G k) →
      ((vE S f (k + 1)).sum ≤ 1152921504606846976 → ∀ s' h', E2P S p f N Hb (k + 1) s' h' → Q .normal s' h') → (¬ (vE S f (k + 1)).sum ≤ 1152921504606846976 → ∀ s' h', ((fun s h => s.get [true, true] = .nils ∧ s.get [false, false, false] = .bool false) : SP) s' h' → Q .ret s' h') → W tbl J (.trim [[], [true, false, false], [true, true, false, true], [false, false, true, true]] c75_b2) s1 H1 Q := fun s1 H1 Q bn kH g0 hg q kA kB => by
    obtain ⟨b, hbe⟩ : ∃ b, H1.size = b := ⟨_, rfl⟩
    have hN : H1.N ≤ b := by rw [← hbe]; unfold Heap.size; omega
    have lf1 := lf.kp kH
    have l1 := c75_l1_ok (p := p) (w26 := N) (w27 := k) (g := ev S f k) J (show H1.size ≤ b by omega) hN os lf1 g0 hg
    have bz0 : BZ H1 (H1.plus [.cells 1 S.length (List.replicate S.length (G 0))]) b S.length (pE S (ev S f k) 0) ∧ ∀ u, pE S (ev S f k) 0 u ≤ 1152921504606846976 := by
      refine ⟨⟨Kp.plus _ _, ?_⟩, fun u => by simp [pE]⟩
      rw [plus_at0 _ _ _ _ hbe, lN_zero]
      congr 2
    have mk1 : mkSl H1 8 (G 0) S.length = some (.slice b 0 S.length S.length, { eff := .grow [.cells 1 S.length (List.replicate S.length (G 0))] }) := by
      rw [mkSl_ok _ _ _ _ _ rfl (by omega), hbe]
    obtain ⟨x, mb, nb, rs, g1, sx, _, _⟩ := lf1
    have ro := rE_of (g := ev S f k) os
    rw [← vE_succ] at ro
    have tt : ∀ h, BZ H1 h b S.length (pE S (ev S f k) S.length) → (∀ u, pE S (ev S f k) S.length u ≤ 1152921504606846976) → J 63 [.slice b 0 S.length S.length, G 1152921504606846976] h = some (tot (vE S f (k + 1)), [], false) ∧ Kp (fun _ => False) Hb h ∧ h.get b = .cells 1 S.length (gn (vE S f (k + 1))) ∧ ∀ i, i < S.length → ev S f (k + 1) i ≤ 1152921504606846976 := fun h bz iv => by
      refine ⟨k63 h _ (vE S f (k + 1)) (.inr ⟨b, S.length, by rw [gn_len, vE_len], bz.g⟩) (by rw [vE_len]; omega) (fun v hv => ?_), kH.trans bz.kp, bz.g, fun i _ => iv i⟩
      obtain ⟨u, _, rfl⟩ := List.mem_map.1 hv
      exact iv u
    have hs2 : Hb.size ≤ b := by have := kH.size; omega
    cases hr : af (rE S (ev S f k)) 0 S.length
    · have l1 := l1.2 hr
      have ns : ¬ (vE S f (k + 1)).sum ≤ 1152921504606846976 := fun h => by rw [ro h] at hr; cases hr
      have kR := kB ns
      unfold E1P at l1
      clear kA kB tt ro g0 hg kH lf hs2
      have sz0 : S.length ≠ 0 := fun e => by rw [e] at hr; cases hr
      clear hr
      generalize gn (vE S f k) = cv at *
      generalize List.replicate S.length (G 0) = rp at *
      generalize hnn : S.length = n at *
      rcases sx with ⟨rfl, hz⟩ | ⟨b1, v1, rfl⟩
      · exact absurd hz sz0
      · refine W.trim ?_
        refine W.seq (W.chunk ?_)
        simp (disch := first|omega|exact zE rfl|exact zO|exact zL rfl) [c75_o4, zG, q]
        refine W.seq (W.chunk ?_)
        simp (disch := first|omega|exact zE rfl|exact zO|exact zL rfl) [zG, q]
        refine W.seq (W.block ?_)
        refine W.seq (W.chunk ?_)
        simp (disch := first|omega|exact zE rfl|exact zO|exact zL rfl) [-act, c75_o5, zG, q, act_move, act_mkSl, act_len1, act_nil, act_fa, act_load, g1, mk1]
        refine W.assoc ?_
        refine W.seq (W.chunk ?_)
        simp (disch := first|omega|exact zE rfl|exact zO|exact zL rfl) [c75_o6, zG, q]
        refine W.seq (W.block ?_)
        refine W.use (l1) (by simp (disch := first|omega|exact zE rfl|exact zO|exact zL rfl) [zG, q, bz0.1, bz0.2]) fun s1 H1 hp => ?_
        try simp only [zW, if_true]
        exact kR _ _ hp
    · have l1 := l1.1 hr
      clear hr ro g0 hg lf kH
      unfold E1P E1Q at l1
      by_cases hs : (vE S f (k + 1)).sum ≤ 1152921504606846976
      · have kR := kA hs
        have et : tot (vE S f (k + 1)) = .tup [G (vE S f (k + 1)).sum, .bool true] := by unfold tot; rw [if_pos hs]
        rw [et] at tt
        clear kA kB et
        dsimp only [E2P] at kR
        generalize (vE S f (k + 1)).sum = sm at *
        generalize List.replicate S.length (G 0) = rp at *
        generalize hnn : S.length = n at *
        have z0 : ((0 : Nat) : Int) = 0 := rfl
        rcases sx with ⟨rfl, rfl⟩ | ⟨b1, v1, rfl⟩
        all_goals
          try rw [z0] at mk1
          refine W.trim ?_
          refine W.seq (W.chunk ?_)
          simp (disch := first|omega|exact zE rfl|exact zO|exact zL rfl) [c75_o4, zG, q]
          refine W.seq (W.chunk ?_)
          simp (disch := first|omega|exact zE rfl|exact zO|exact zL rfl) [zG, q]
          refine W.seq (W.block ?_)
          refine W.seq (W.chunk ?_)
          simp (disch := first|omega|exact zE rfl|exact zO|exact zL rfl) [-act, c75_o5, zG, q, act_move, act_mkSl, act_len1, act_nil, act_fa, act_load, g1, mk1]
          refine W.assoc ?_
          refine W.seq (W.chunk ?_)
          simp (disch := first|omega|exact zE rfl|exact zO|exact zL rfl) [c75_o6, zG, q]
          refine W.seq (W.block ?_)
          refine W.use (l1) (by simp (disch := first|omega|exact zE rfl|exact zO|exact zL rfl) [zG, q, bz0.1, bz0.2]) fun s1 H1 hp => ?_
          obtain ⟨⟨bz, iv⟩, q⟩ := hp
          try simp only [zW, if_true]
          refine W.assoc ?_
          obtain ⟨f1, f2, f3, f4⟩ := tt _ bz iv
          refine W.seq (W.chunk ?_)
          simp (disch := first|omega|exact zE rfl|exact zO|exact zL rfl) [c75_o18, zG, q, f1]
          refine W.assoc ?_
          refine W.seq (W.chunk ?_)
          simp (disch := first|omega|exact zE rfl|exact zO|exact zL rfl) [c75_o19, zG, q]
          refine W.seq (W.chunk ?_)
          simp (disch := first|omega|exact zE rfl|exact zO|exact zL rfl) [c75_o20, zG, q]
          refine W.chunk ?_
          simp (disch := first|omega|exact zE rfl|exact zO|exact zL rfl) [c75_o21, zG, q]
          refine W.chunk ?_
          simp (disch := first|omega|exact zE rfl|exact zO|exact zL rfl) [c75_o22, zG, q]
          exact kR _ _ ⟨b, ⟨f2, f3, hs2, f4⟩, by simp [T.get, q]⟩
      · have kR := kB hs
        have et : tot (vE S f (k + 1)) = .tup [G 0, .bool false] := by unfold tot; rw [if_neg hs]
        rw [et] at tt
        clear kA kB et
        generalize List.replicate S.length (G 0) = rp at *
        generalize hnn : S.length = n at *
        have z0 : ((0 : Nat) : Int) = 0 := rfl
        rcases sx with ⟨rfl, rfl⟩ | ⟨b1, v1, rfl⟩
        all_goals
          try rw [z0] at mk1
          refine W.trim ?_
          refine W.seq (W.chunk ?_)
          simp (disch := first|omega|exact zE rfl|exact zO|exact zL rfl) [c75_o4, zG, q]
          refine W.seq (W.chunk ?_)
          simp (disch := first|omega|exact zE rfl|exact zO|exact zL rfl) [zG, q]
          refine W.seq (W.block ?_)
          refine W.seq (W.chunk ?_)
          simp (disch := first|omega|exact zE rfl|exact zO|exact zL rfl) [-act, c75_o5, zG, q, act_move, act_mkSl, act_len1, act_nil, act_fa, act_load, g1, mk1]
          refine W.assoc ?_
          refine W.seq (W.chunk ?_)
          simp (disch := first|omega|exact zE rfl|exact zO|exact zL rfl) [c75_o6, zG, q]
          refine W.seq (W.block ?_)
          refine W.use (l1) (by simp (disch := first|omega|exact zE rfl|exact zO|exact zL rfl) [zG, q, bz0.1, bz0.2]) fun s1 H1 hp => ?_
          obtain ⟨⟨bz, iv⟩, q⟩ := hp
          try simp only [zW, if_true]
          refine W.assoc ?_
          obtain ⟨f1, f2, f3, f4⟩ := tt _ bz iv
          refine W.seq (W.chunk ?_)
          simp (disch := first|omega|exact zE rfl|exact zO|exact zL rfl) [c75_o18, zG, q, f1]
          refine W.assoc ?_
          refine W.seq (W.chunk ?_)
          simp (disch := first|omega|exact zE rfl|exact zO|exact zL rfl) [c75_o19, zG, q]
          refine W.seq (W.chunk ?_)
          simp (disch := first|omega|exact zE rfl|exact zO|exact zL rfl) [c75_o20, zG, q]
          exact kR _ _ (by simp [T.get, q])
  exact ⟨fun hs => Tr.w fun s1 H1 hp Q kR => by
    obtain ⟨bn, ⟨h1, h2, _, h3⟩, q⟩ := hp
    exact main s1 H1 Q bn h1 h2 h3 q (fun _ => kR) (fun h => absurd hs h), fun hs => Tr.w fun s1 H1 hp Q kR => by
    obtain ⟨bn, ⟨h1, h2, _, h3⟩, q⟩ := hp
    exact main s1 H1 Q bn h1 h2 h3 q (fun h => absurd h hs) (fun _ => kR)⟩
theorem ev_0 (f : Nat) {n : Nat} (h : f < n) : (List.replicate n (G 0)).set f (G 1) = gn (lN (ev S f 0) n) := by
  rw [lN_zero]
  have := lN_set (fun _ => 0) h 1
  rw [show G ((1 : Nat) : Int) = G 1 from rfl] at this
  rw [this]; rfl
theorem c75_l2_ok (J : CallF) (k63 : K63 J) {f N : Nat} {Hb : Heap} (os : OkS S) (lf : LF Hb p S) (N40 : N ≤ 40) :
    (okE S f (N + 1) = true → Tr tbl J c75_l2 (E2P S p f N Hb 0) (.exit 0) (fun s h => ∃ bn, (Kp (fun _ => False) Hb h ∧ h.get bn = .cells 1 S.length (gn (vE S f N)) ∧ Hb.size ≤ bn) ∧ s.get [true, false, false] = .slice bn 0 S.length S.length)) ∧
    (okE S f (N + 1) = false → Tr tbl J c75_l2 (E2P S p f N Hb 0) .ret (fun s h => s.get [true, true] = .nils ∧ s.get [false, false, false] = .bool false)) := by
  have fin : Tr tbl J (.trim [[], [true, false, false], [true, true, false, true], [false, false, true, true]] c75_b2) (E2P S p f N Hb N) (.exit 0) (fun s h => ∃ bn, (Kp (fun _ => False) Hb h ∧ h.get bn = .cells 1 S.length (gn (vE S f N)) ∧ Hb.size ≤ bn) ∧ s.get [true, false, false] = .slice bn 0 S.length S.length) := by
    refine Tr.w fun s1 H1 hp _ kR => W.trim ?_
    obtain ⟨bn, ⟨h1, h2, h3, _⟩, q⟩ := hp
    generalize hnn : S.length = n at *
    refine W.seq (W.chunk ?_)
    simp (disch := first|omega|exact zE rfl|exact zO|exact zL rfl) [c75_o4, zG, q]
    refine W.seq (W.chunk ?_)
    simp (disch := first|omega|exact zE rfl|exact zO|exact zL rfl) [zG, q]
    exact kR _ _ ⟨bn, ⟨h1, h2, h3⟩, by simp [T.get, q]⟩
  exact ⟨fun h => Tr.allT (P := E2P S p f N Hb) (p := fun k => decide ((vE S f (k + 1)).sum ≤ 1152921504606846976)) N (fun k hk hp => (c75_b2_ok J k63 os lf hk N40).1 (of_decide_eq_true hp)) fin (by simp) N 0 (by omega) h,
    fun h => Tr.allF (P := E2P S p f N Hb) (p := fun k => decide ((vE S f (k + 1)).sum ≤ 1152921504606846976)) N (fun k hk hp => (c75_b2_ok J k63 os lf hk N40).1 (of_decide_eq_true hp)) (fun k hk hp => (c75_b2_ok J k63 os lf hk N40).2 (of_decide_eq_false hp)) (by simp) N 0 (by omega) h⟩
theorem c75_ok (J : CallF) (k63 : K63 J) (hJ : ∀ a h, J 75 a h = none) (h : Heap) (os : OkS S) (lf : LF h p S) {f N : Nat} (hf : f < S.length) (N40 : N + 1 ≤ 40) :
    (okE S f (N + 1) = true → ∃ v own, CallsTo tbl J 75 [.ptr p 0 3, G f, G (N + 1 : Nat)] h (v, own, false) ∧ ∃ x, v = .tup [x, .bool true] ∧ RV (h.plus own) x (gn (vE S f N))) ∧
    (okE S f (N + 1) = false → CallsTo tbl J 75 [.ptr p 0 3, G f, G (N + 1 : Nat)] h (.tup [.nils, .bool false], [], false)) := by
  have n2 := os.n
  have l2 := c75_l2_ok (p := p) (f := f) (N := N) J k63 os lf.fr (by omega)
  obtain ⟨H0, hH0⟩ : ∃ H, frameOf h = H := ⟨_, rfl⟩
  have lfr := lf.fr
  rw [hH0] at lfr l2
  obtain ⟨x, mb, nb, rs, g1, sx, _, _⟩ := lfr
  obtain ⟨bx, vx, rfl⟩ : ∃ b v, x = .slice b 0 S.length v := by
    rcases sx with ⟨_, e⟩ | h
    · omega
    · exact h
  have mk1 : mkSl H0 8 (G 0) S.length = some (.slice H0.size 0 S.length S.length, { eff := .grow [.cells 1 S.length (List.replicate S.length (G 0))] }) := mkSl_ok _ _ _ _ _ rfl (by omega)
  have p1 : Eff.app (.put H0.size S.length f [G 1]) (H0.plus [.cells 1 S.length (List.replicate S.length (G 0))]) = some (H0.plus [.cells 1 S.length (gn (vE S f 0))]) := by
    rw [put_plus1 _ _ _ _ _ _ _ _ rfl (by simpa using hf), ev_0 f hf]; rfl
  have e1 : Kp (fun _ => False) H0 (H0.plus [.cells 1 S.length (gn (vE S f 0))]) := Kp.plus _ _
  have e4 : (∀ i, i < S.length → ev S f 0 i ≤ 1152921504606846976) = True := eq_true fun i _ => by unfold ev; split <;> omega
  have k1 : ((N + 1 : Nat) : Int) = (N : Int) + 1 := by omega
  have lrp : (List.replicate S.length (G 0)).length = S.length := by simp
  unfold E2P at l2
  constructor
  · intro hc
    have l2 := l2.1 hc
    refine Tr.fny (cf := c75) (e := .ret) (s := T.set (T.set (T.set .leaf [] (.ptr p 0 3)) [false] (G f)) [true] (G (N + 1 : Nat))) (by decide) rfl (hJ _ _) rfl rfl (by simp) ?_
    rw [hH0, k1]
    have fin : ∀ h' bn, Kp (fun _ => False) H0 h' → h'.get bn = .cells 1 S.length (gn (vE S f N)) → (if (one [AV.slice bn 0 S.length S.length, AV.bool true]).flat = true then [] else h'.own) = h'.own ∧ RV (h.plus h'.own) (.slice bn 0 S.length S.length) (gn (vE S f N)) := fun h' bn k g => by
      refine ⟨by rw [if_neg (by simp [one, AV.flat, AV.flats])], .inr ⟨bn, S.length, by rw [gn_len, vE_len], ?_⟩⟩
      rw [← hH0] at k
      have e := Kp.own k
      rw [← fr_get h, ← e]; exact g
    clear os lf
    generalize List.replicate S.length (G 0) = rp at *
    generalize hv0 : gn (vE S f 0) = cv at *
    generalize hnn : S.length = n at *
    refine Tr.w fun s1 H1 hp _ kR => ?_
    obtain ⟨rfl, rfl⟩ := hp
    have q : True := trivial
    refine W.seq (W.chunk ?_)
    simp (disch := first|omega|exact zE rfl|exact zO|exact zL rfl) [c75_o0, zG, q]
    refine W.seq (W.chunk ?_)
    simp (disch := first|omega|exact zE rfl|exact zO|exact zL rfl) [-act, c75_o1, zG, q, act_move, act_mkSl, act_len1, act_nil, act_fa, act_load, g1, mk1]
    refine W.seq (W.chunk ?_)
    simp (disch := first|omega|exact zE rfl|exact zO|exact zL rfl) [c75_o2, zG, q, p1, lrp]
    refine W.assoc ?_
    refine W.seq (W.chunk ?_)
    simp (disch := first|omega|exact zE rfl|exact zO|exact zL rfl) [c75_o3, zG, q]
    refine W.seq (W.block ?_)
    refine W.use (l2) (by simp (disch := first|omega|exact zE rfl|exact zO|exact zL rfl) [zG, q, e1, e4]) fun s1 H1 hp => ?_
    obtain ⟨bn, ⟨h1, h2, h3⟩, q⟩ := hp
    try simp only [zW, if_true]
    refine W.seq (W.chunk ?_)
    simp (disch := first|omega|exact zE rfl|exact zO|exact zL rfl) [c75_o23, zG, q]
    refine W.ret ?_
    try simp only [zW, if_true]
    obtain ⟨f1, f2⟩ := fin _ bn h1 h2
    refine kR _ _ ?_
    refine ⟨[.slice bn 0 n n, .bool true], by simp [T.get, c75, evRess, evRes, q], _, rfl, ?_⟩
    rw [f1]; exact f2
  · intro hc
    have l2 := l2.2 hc
    refine Tr.fnv (cf := c75) (e := .ret) (s := T.set (T.set (T.set .leaf [] (.ptr p 0 3)) [false] (G f)) [true] (G (N + 1 : Nat))) (by decide) rfl (hJ _ _) rfl rfl rfl (by simp) ?_
    refine Tr.post (Q := (fun s h => s.get [true, true] = .nils ∧ s.get [false, false, false] = .bool false)) (fun s h q => by simp [c75, q]) ?_
    rw [hH0, k1]
    clear os lf hc
    generalize List.replicate S.length (G 0) = rp at *
    generalize hv0 : gn (vE S f 0) = cv at *
    generalize hnn : S.length = n at *
    refine Tr.w fun s1 H1 hp _ kR => ?_
    obtain ⟨rfl, rfl⟩ := hp
    have q : True := trivial
    refine W.seq (W.chunk ?_)
    simp (disch := first|omega|exact zE rfl|exact zO|exact zL rfl) [c75_o0, zG, q]
    refine W.seq (W.chunk ?_)
    simp (disch := first|omega|exact zE rfl|exact zO|exact zL rfl) [-act, c75_o1, zG, q, act_move, act_mkSl, act_len1, act_nil, act_fa, act_load, g1, mk1]
    refine W.seq (W.chunk ?_)
    simp (disch := first|omega|exact zE rfl|exact zO|exact zL rfl) [c75_o2, zG, q, p1, lrp]
    refine W.assoc ?_
    refine W.seq (W.chunk ?_)
    simp (disch := first|omega|exact zE rfl|exact zO|exact zL rfl) [c75_o3, zG, q]
    refine W.seq (W.block ?_)
    refine W.use (l2) (by simp (disch := first|omega|exact zE rfl|exact zO|exact zL rfl) [zG, q, e1, e4]) fun s1 H1 hp => ?_
    try simp only [zW, if_true]
    exact kR _ _ hp
end
structure A75 where
  p : Nat
  f : Nat
  N : Nat
  S : List (List Nat)
def Ok75 (b : A75) (h : Heap) : Prop := OkS b.S ∧ LF h b.p b.S ∧ b.f < b.S.length ∧ b.N + 1 ≤ 40
def Pre75 (b : A75) (args : List AV) (h : Heap) : Prop := Ok75 b h ∧ args = [.ptr b.p 0 3, G b.f, G (b.N + 1 : Nat)]
def Post75 (b : A75) (h : Heap) (v : AV) (own : List AObj) : Prop := (okE b.S b.f (b.N + 1) = true → ∃ x, v = .tup [x, .bool true] ∧ RV (h.plus own) x (gn (vE b.S b.f b.N))) ∧ (okE b.S b.f (b.N + 1) = false → v = .tup [.nils, .bool false] ∧ own = [])
noncomputable def T44 : CallF := addK tbl T43 75 Pre75 Post75
theorem t44 : Sound Go.Proofs.Try.prog T44 := Sound.addK follows ok t43 (by decide) _ _
abbrev K75 (J : CallF) : Prop := ∀ (h : Heap) (b : A75), Ok75 b h → ∃ v own, J 75 [.ptr b.p 0 3, G b.f, G (b.N + 1 : Nat)] h = some (v, own, false) ∧ Post75 b h v own
theorem k63_43 : K63 T43 := fun h x L h1 h2 h3 => by
  rw [show T43 63 [x, G 1152921504606846976] h = T37 63 [x, G 1152921504606846976] h from by simp (disch := decide) only [T38, T39, T40, T41, T42, T43, addI_ne, addX_ne, addV_ne, addK_ne]]; exact k63 h x L h1 h2 h3
theorem k75 : K75 T44 := fun h b o => by
  obtain ⟨v, own, e, l⟩ := addK_some (Pre := Pre75) (Post := Post75) (fun b args h hp => by
    obtain ⟨⟨h1, h2, h3, h4⟩, rfl⟩ := hp
    have c := c75_ok T43 k63_43 (fun _ _ => by simp (disch := decide) only [T1, T2, T3, T4, T5, T6, T7, T8, T9, T10, T11, T12, T13, T14, T15, T16, T17, T18, T19, T20, T21, T22, T23, T24, T25, T26, T27, T28, T29, T30, T31, T32, T33, T34, T35, T36, T37, T38, T39, T40, T41, T42, T43, addI_ne, addX_ne, addV_ne, addK_ne]; rfl) h h1 h2 h3 h4
    cases hc : okE b.S b.f (b.N + 1)
    · exact ⟨_, _, c.2 hc, fun q => (by rw [hc] at q; cases q), fun _ => ⟨rfl, rfl⟩⟩
    · obtain ⟨v, own, e, l⟩ := c.1 hc
      exact ⟨_, _, e, fun _ => l, fun q => (by rw [hc] at q; cases q)⟩) b _ h ⟨o, rfl⟩
  exact ⟨v, own, e, l⟩
def rT (S : List (List Nat)) (N f i : Nat) : Nat := if f ∈ S.getD i [] then ev S f N i else 0
def rP (S : List (List Nat)) (N f i : Nat) : Nat := ((List.range i).map (rT S N f)).sum
def rA (S : List (List Nat)) (N f : Nat) : Nat := ((List.range f).map fun f' => rP S N f' S.length).sum
theorem rP_succ (S : List (List Nat)) (N f i : Nat) : rP S N f (i + 1) = rP S N f i + rT S N f i := by
  unfold rP
  rw [List.range_succ, List.map_append, List.sum_append]; simp
theorem rA_succ (S : List (List Nat)) (N f : Nat) : rA S N (f + 1) = rA S N f + rP S N f S.length := by
  unfold rA
  rw [List.range_succ, List.map_append, List.sum_append]; simp
theorem rP_mono (S : List (List Nat)) (N f : Nat) : ∀ d i, rP S N f i ≤ rP S N f (i + d)
  | 0, i => Nat.le_refl _
  | d + 1, i => by
    refine Nat.le_trans (rP_mono S N f d i) ?_
    rw [← Nat.add_assoc, rP_succ]
    omega
def gE (S : List (List Nat)) (N f : Nat) : Bool := okE S f (N + 1) && decide (rA S N (f + 1) ≤ 1152921504606846976)
def okR (S : List (List Nat)) (N : Nat) : Bool := af (gE S N) 0 S.length
section
variable {S : List (List Nat)} {p N : Nat}
abbrev R0P (S : List (List Nat)) (p N f : Nat) (x : AV) (H : Heap) (i : Nat) : SP := fun s h => h = H ∧ s.get [true] = G (N + 1 : Nat) ∧ s.get [true, false, false] = .ptr p 0 3 ∧ s.get [false, true, false] = G (rA S N f + rP S N f i : Nat) ∧ s.get [true, true, false] = G f ∧ s.get [false, false, true, false, false] = G S.length ∧ s.get [true, false, true, false, false] = G f ∧ s.get [true, false, false, false, true] = x ∧ s.get [false, true, false, false, true] = G S.length ∧ s.get [true, true, false, false, true] = G i
theorem c41_l0_ok (J : CallF) (k70 : K70 J) (os : OkS S) {H : Heap} (lf : LF H p S) {f : Nat} (hf : f < S.length) {x : AV} (rv : RV H x (gn (vE S f N))) (he : ∀ i, i < S.length → ev S f N i ≤ 1152921504606846976) (ha : rA S N f ≤ 1152921504606846976) :
    (rA S N (f + 1) ≤ 1152921504606846976 → Tr tbl J c41_l0 (R0P S p N f x H 0) (.exit 2) (fun s h => h = H ∧ s.get [true] = G (N + 1 : Nat) ∧ s.get [true, false, false] = .ptr p 0 3 ∧ s.get [false, true, false] = G (rA S N (f + 1)) ∧ s.get [false, false, true, false, false] = G S.length ∧ s.get [true, false, true, false, false] = G f)) ∧
    (¬ rA S N (f + 1) ≤ 1152921504606846976 → Tr tbl J c41_l0 (R0P S p N f x H 0) .ret (fun s h => s.get [true, true] = G 0 ∧ s.get [false, false, false] = G 5)) := by
  have n2 := os.n
  obtain ⟨bv, vv, rfl, gv⟩ : ∃ b v, x = .slice b 0 S.length v ∧ H.get b = .cells 1 v (gn (vE S f N)) := by
    rcases rv with ⟨_, e⟩ | ⟨b, v, e, g⟩
    · have : (gn (vE S f N)).length = 0 := by rw [e]; rfl
      rw [gn_len, vE_len] at this; omega
    · rw [gn_len, vE_len] at e; exact ⟨b, v, e, g⟩
  obtain ⟨x1, mb, nb, rs, g1, _, g3, g4⟩ := lf
  have key : ∀ i, i < S.length → rA S N f + rP S N f i ≤ 1152921504606846976 → Tr tbl J (.trim [[true], [true, false, false], [false, true, false], [true, true, false], [false, false, true, false, false], [true, false, true, false, false], [true, false, false, false, true], [false, true, false, false, true], [true, true, false, false, true]] c41_b0) (R0P S p N f (.slice bv 0 S.length vv) H i) (if rA S N f + rP S N f (i + 1) ≤ 1152921504606846976 then .normal else .ret)
      (if rA S N f + rP S N f (i + 1) ≤ 1152921504606846976 then R0P S p N f (.slice bv 0 S.length vv) H (i + 1) else (fun s h => s.get [true, true] = G 0 ∧ s.get [false, false, false] = G 5)) := fun i hi hp => by
    obtain ⟨y, ey, rv⟩ := g4 i hi
    have ey' := getI ey
    have lrs : i < rs.length := (List.getElem?_eq_some_iff.1 ey).1
    have e1 := lN_at (ev S f N) hi
    have e1' := getI e1
    have l3 := lN_len (ev S f N) S.length
    have k := k70 H y f (S.getD i []) rv (by have := os.len i; omega)
    have bi := he i hi
    have gv' : H.get bv = .cells 1 vv (gn (lN (ev S f N) S.length)) := gv
    have k1 : ((N + 1 : Nat) : Int) = (N : Int) + 1 := by omega
    unfold R0P
    rw [rP_succ, k1]
    have rt : rT S N f i = if f ∈ S.getD i [] then ev S f N i else 0 := rfl
    clear rv g4 he k1
    generalize gn (lN (ev S f N) S.length) = cs at *
    generalize rP S N f i = pp at *
    generalize rA S N f = aa at *
    by_cases c : f ∈ S.getD i []
    · rw [if_pos c] at rt
      rw [decide_eq_true c] at k
      rw [rt]
      generalize ev S f N i = e at *
      generalize hnn : S.length = n at *
      by_cases d : aa + (pp + e) ≤ 1152921504606846976
      · rw [if_pos d, if_pos d]
        refine Tr.w fun s1 H1 hp2 _ kR => W.trim ?_
        obtain ⟨rfl, q⟩ := hp2
        refine W.seq (W.chunk ?_)
        simp (disch := first|omega|exact zE rfl|exact zO|exact zL rfl) [c41_o12, zG, q]
        refine W.seq (W.chunk ?_)
        simp (disch := first|omega|exact zE rfl|exact zO|exact zL rfl) [zG, q]
        refine W.seq (W.block ?_)
        refine W.seq (W.chunk ?_)
        simp (disch := first|omega|exact zE rfl|exact zO|exact zL rfl) [c41_o13, zG, q, gv', e1, e1', l3]
        refine W.assoc ?_
        refine W.seq (W.chunk ?_)
        simp (disch := first|omega|exact zE rfl|exact zO|exact zL rfl) [c41_o14, zG, q, g1, g3, ey, ey', k]
        refine W.seq (W.cond (v := false) (by simp (disch := first|omega|exact zE rfl|exact zO|exact zL rfl) [zG, q]) ?_)
        simp only [if_true, if_false, Bool.false_eq_true]
        refine W.skip ?_
        try simp only [zW, if_true]
        refine W.assoc ?_
        refine W.seq (W.chunk ?_)
        simp (disch := first|omega|exact zE rfl|exact zO|exact zL rfl) [c41_o15, zG, q]
        refine W.seq (W.chunk ?_)
        simp (disch := first|omega|exact zE rfl|exact zO|exact zL rfl) [c41_o16, zG, q]
        refine W.chunk ?_
        simp (disch := first|omega|exact zE rfl|exact zO|exact zL rfl) [c41_o17, zG, q]
        refine W.chunk ?_
        simp (disch := first|omega|exact zE rfl|exact zO|exact zL rfl) [c41_o18, zG, q]
        exact kR _ _ (by simp [T.get, q]; omega)
      · rw [if_neg d, if_neg d]
        refine Tr.w fun s1 H1 hp2 _ kR => W.trim ?_
        obtain ⟨rfl, q⟩ := hp2
        refine W.seq (W.chunk ?_)
        simp (disch := first|omega|exact zE rfl|exact zO|exact zL rfl) [c41_o12, zG, q]
        refine W.seq (W.chunk ?_)
        simp (disch := first|omega|exact zE rfl|exact zO|exact zL rfl) [zG, q]
        refine W.seq (W.block ?_)
        refine W.seq (W.chunk ?_)
        simp (disch := first|omega|exact zE rfl|exact zO|exact zL rfl) [c41_o13, zG, q, gv', e1, e1', l3]
        refine W.assoc ?_
        refine W.seq (W.chunk ?_)
        simp (disch := first|omega|exact zE rfl|exact zO|exact zL rfl) [c41_o14, zG, q, g1, g3, ey, ey', k]
        refine W.seq (W.cond (v := false) (by simp (disch := first|omega|exact zE rfl|exact zO|exact zL rfl) [zG, q]) ?_)
        simp only [if_true, if_false, Bool.false_eq_true]
        refine W.skip ?_
        try simp only [zW, if_true]
        refine W.assoc ?_
        refine W.seq (W.chunk ?_)
        simp (disch := first|omega|exact zE rfl|exact zO|exact zL rfl) [c41_o15, zG, q]
        refine W.seq (W.chunk ?_)
        simp (disch := first|omega|exact zE rfl|exact zO|exact zL rfl) [c41_o16, zG, q]
        exact kR _ _ (by simp [T.get, q])
    · rw [if_neg c] at rt
      rw [decide_eq_false c] at k
      rw [rt, Nat.add_zero, if_pos hp, if_pos hp]
      generalize ev S f N i = e at *
      generalize hnn : S.length = n at *
      refine Tr.w fun s1 H1 hp2 _ kR => W.trim ?_
      obtain ⟨rfl, q⟩ := hp2
      refine W.seq (W.chunk ?_)
      simp (disch := first|omega|exact zE rfl|exact zO|exact zL rfl) [c41_o12, zG, q]
      refine W.seq (W.chunk ?_)
      simp (disch := first|omega|exact zE rfl|exact zO|exact zL rfl) [zG, q]
      refine W.seq (W.block ?_)
      refine W.seq (W.chunk ?_)
      simp (disch := first|omega|exact zE rfl|exact zO|exact zL rfl) [c41_o13, zG, q, gv', e1, e1', l3]
      refine W.assoc ?_
      refine W.seq (W.chunk ?_)
      simp (disch := first|omega|exact zE rfl|exact zO|exact zL rfl) [c41_o14, zG, q, g1, g3, ey, ey', k]
      refine W.seq (W.cond (v := true) (by simp (disch := first|omega|exact zE rfl|exact zO|exact zL rfl) [zG, q]) ?_)
      simp only [if_true, if_false, Bool.false_eq_true]
      refine W.exit ?_
      try simp only [zW, if_true]
      refine W.chunk ?_
      simp (disch := first|omega|exact zE rfl|exact zO|exact zL rfl) [c41_o18, zG, q]
      exact kR _ _ (by simp [T.get, q])
  have fin : Tr tbl J (.trim [[true], [true, false, false], [false, true, false], [true, true, false], [false, false, true, false, false], [true, false, true, false, false], [true, false, false, false, true], [false, true, false, false, true], [true, true, false, false, true]] c41_b0) (R0P S p N f (.slice bv 0 S.length vv) H S.length) (.exit 2) (fun s h => h = H ∧ s.get [true] = G (N + 1 : Nat) ∧ s.get [true, false, false] = .ptr p 0 3 ∧ s.get [false, true, false] = G (rA S N (f + 1)) ∧ s.get [false, false, true, false, false] = G S.length ∧ s.get [true, false, true, false, false] = G f) := by
    rw [rA_succ]
    unfold R0P
    generalize (rA S N f + rP S N f S.length : Nat) = z at *
    generalize hnn : S.length = n at *
    refine Tr.w fun s1 H1 hp2 _ kR => W.trim ?_
    obtain ⟨rfl, q⟩ := hp2
    refine W.seq (W.chunk ?_)
    simp (disch := first|omega|exact zE rfl|exact zO|exact zL rfl) [c41_o12, zG, q]
    refine W.seq (W.chunk ?_)
    simp (disch := first|omega|exact zE rfl|exact zO|exact zL rfl) [zG, q]
    exact kR _ _ (by simp [T.get, q])
  have r0 : rP S N f 0 = 0 := by simp [rP]
  rw [rA_succ]
  constructor
  · intro hs
    have : ∀ j i, i + j = S.length → Tr tbl J c41_l0 (R0P S p N f (.slice bv 0 S.length vv) H i) (.exit 2) (fun s h => h = H ∧ s.get [true] = G (N + 1 : Nat) ∧ s.get [true, false, false] = .ptr p 0 3 ∧ s.get [false, true, false] = G (rA S N (f + 1)) ∧ s.get [false, false, true, false, false] = G S.length ∧ s.get [true, false, true, false, false] = G f) := fun j => by
      induction j with
      | zero =>
        intro i hi
        obtain rfl : i = S.length := by omega
        exact Tr.out fin (by simp)
      | succ j ih =>
        intro i hi
        have m1 := rP_mono S N f (S.length - i) i
        have m2 := rP_mono S N f (S.length - (i + 1)) (i + 1)
        rw [show i + (S.length - i) = S.length by omega] at m1
        rw [show i + 1 + (S.length - (i + 1)) = S.length by omega] at m2
        have k := key i (by omega) (by omega)
        rw [if_pos (by omega), if_pos (by omega)] at k
        exact Tr.next k (ih (i + 1) (by omega))
    rw [rA_succ] at this
    exact this S.length 0 (by omega)
  · intro hs
    have : ∀ j i, i + j = S.length → rA S N f + rP S N f i ≤ 1152921504606846976 → Tr tbl J c41_l0 (R0P S p N f (.slice bv 0 S.length vv) H i) .ret (fun s h => s.get [true, true] = G 0 ∧ s.get [false, false, false] = G 5) := fun j => by
      induction j with
      | zero =>
        intro i hi hp
        obtain rfl : i = S.length := by omega
        exact absurd hp hs
      | succ j ih =>
        intro i hi hp
        have k := key i (by omega) hp
        by_cases c : rA S N f + rP S N f (i + 1) ≤ 1152921504606846976
        · rw [if_pos c, if_pos c] at k
          exact Tr.next k (ih (i + 1) (by omega) c)
        · rw [if_neg c, if_neg c] at k
          exact Tr.out k (by simp)
    exact this S.length 0 (by omega) (by rw [r0]; omega)
abbrev R1P (S : List (List Nat)) (p N : Nat) (Hb : Heap) (f : Nat) : SP := fun s h => (Kp (fun _ => False) Hb h ∧ rA S N f ≤ 1152921504606846976) ∧ s.get [true] = G (N + 1 : Nat) ∧ s.get [true, false, false] = .ptr p 0 3 ∧ s.get [false, true, false] = G (rA S N f) ∧ s.get [false, false, true, false, false] = G S.length ∧ s.get [true, false, true, false, false] = G f
theorem okE_le {f i : Nat} (h : okE S f (N + 1) = true) (hi : i < S.length) : ev S f N i ≤ 1152921504606846976 := by
  cases N with
  | zero => unfold ev; split <;> omega
  | succ M =>
    unfold okE at h
    rw [af_iff] at h
    have := h M (Nat.zero_le _) (by omega)
    rw [decide_eq_true_eq] at this
    exact Nat.le_trans (sum_mem (lN_mem (f := ev S f (M + 1)) hi)) this
theorem c41_b1_ok (J : CallF) (k70 : K70 J) (k75 : K75 J) (os : OkS S) {Hb : Heap} (lf : LF Hb p S) (N40 : N + 1 ≤ 40) {f : Nat} (hf : f < S.length) :
    (gE S N f = true → Tr tbl J (.trim [[true], [true, false, false], [false, true, false], [false, false, true, false, false], [true, false, true, false, false]] c41_b1) (R1P S p N Hb f) .normal (R1P S p N Hb (f + 1))) ∧
    (gE S N f = false → Tr tbl J (.trim [[true], [true, false, false], [false, true, false], [false, false, true, false, false], [true, false, true, false, false]] c41_b1) (R1P S p N Hb f) .ret (fun s h => s.get [true, true] = G 0 ∧ s.get [false, false, false] = G 5)) := by
  have n2 := os.n
  have k1 : ((N + 1 : Nat) : Int) = (N : Int) + 1 := by omega
  have rr : gE S N f = (okE S f (N + 1) && decide (rA S N (f + 1) ≤ 1152921504606846976)) := rfl
  rw [rr]
  have main : ∀ (s1 : T) (H1 : Heap) (Q : PQ), Kp (fun _ => False) Hb H1 → rA S N f ≤ 1152921504606846976 → (s1.get [true] = G (N + 1 : Nat) ∧ s1.get [true, false, false] = .ptr p 0 3 ∧ s1.get [false, true, false] = G (rA S N f) ∧ s1.get [false, false, true, false, false] = G S.length ∧ s1.get [true, false, true, false, false] = G f) →
      ((okE S f (N + 1) && decide (rA S N (f + 1) ≤ 1152921504606846976)) = true → ∀ s' h', R1P S p N Hb (f + 1) s' h' → Q .normal s' h') → ((okE S f (N + 1) && decide (rA S N (f + 1) ≤ 1152921504606846976)) = false → ∀ s' h', ((fun s h => s.get [true, true] = G 0 ∧ s.get [false, false, false] = G 5) : SP) s' h' → Q .ret s' h') → W tbl J (.trim [[true], [true, false, false], [false, true, false], [false, false, true, false, false], [true, false, true, false, false]] c41_b1) s1 H1 Q := fun s1 H1 Q kH ha q kA kB => by
    obtain ⟨v, own, e75, l75⟩ := k75 H1 ⟨p, f, N, S⟩ ⟨os, lf.kp kH, hf, N40⟩
    simp only at e75
    rw [k1] at e75 q
    obtain ⟨Z, hZ⟩ : ∃ Z, H1.plus own = Z := ⟨_, rfl⟩
    have kZ : Kp (fun _ => False) H1 Z := by rw [← hZ]; exact Kp.plus _ _
    cases hc : okE S f (N + 1)
    · obtain ⟨rfl, rfl⟩ := l75.2 hc
      have kR := kB (by rw [hc]; rfl)
      clear kA kB lf l75
      generalize hnn : S.length = n at *
      refine W.trim ?_
      refine W.seq (W.chunk ?_)
      simp (disch := first|omega|exact zE rfl|exact zO|exact zL rfl) [c41_o6, zG, q]
      refine W.seq (W.chunk ?_)
      simp (disch := first|omega|exact zE rfl|exact zO|exact zL rfl) [zG, q]
      refine W.seq (W.block ?_)
      refine W.seq (W.chunk ?_)
      simp (disch := first|omega|exact zE rfl|exact zO|exact zL rfl) [c41_o7, zG, q]
      refine W.seq (W.chunk ?_)
      simp (disch := first|omega|exact zE rfl|exact zO|exact zL rfl) [c41_o8, zG, q, e75]
      refine W.assoc ?_
      refine W.seq (W.chunk ?_)
      simp (disch := first|omega|exact zE rfl|exact zO|exact zL rfl) [c41_o9, zG, q]
      refine W.seq (W.chunk ?_)
      simp (disch := first|omega|exact zE rfl|exact zO|exact zL rfl) [c41_o10, zG, q]
      exact kR _ _ (by simp [T.get, q])
    · obtain ⟨x, rfl, rv⟩ := l75.1 hc
      rw [hZ] at rv
      simp only at rv
      have l0 := c41_l0_ok (p := p) J k70 os ((lf.kp kH).kp kZ) hf rv (fun i hi => okE_le hc hi) ha
      have sx := rv.sl
      rw [gn_len, vE_len] at sx
      obtain ⟨bv, vv, rfl⟩ := sx.resolve_left (fun e => by omega)
      have r0 : rP S N f 0 = 0 := by simp [rP]
      unfold R0P at l0
      rw [k1, r0, Nat.add_zero] at l0
      by_cases hs : rA S N (f + 1) ≤ 1152921504606846976
      · have l0 := l0.1 hs
        have kR := kA (by rw [hc, decide_eq_true hs]; rfl)
        dsimp only [R1P] at kR
        rw [k1] at kR
        have kk := kH.trans kZ
        clear kA kB lf l75 rv sx
        generalize hra : rA S N f = aa at *
        generalize hnn : S.length = n at *
        refine W.trim ?_
        refine W.seq (W.chunk ?_)
        simp (disch := first|omega|exact zE rfl|exact zO|exact zL rfl) [c41_o6, zG, q]
        refine W.seq (W.chunk ?_)
        simp (disch := first|omega|exact zE rfl|exact zO|exact zL rfl) [zG, q]
        refine W.seq (W.block ?_)
        refine W.seq (W.chunk ?_)
        simp (disch := first|omega|exact zE rfl|exact zO|exact zL rfl) [c41_o7, zG, q]
        refine W.seq (W.chunk ?_)
        simp (disch := first|omega|exact zE rfl|exact zO|exact zL rfl) [c41_o8, zG, q, e75, app_if, app_if', hZ]
        refine W.assoc ?_
        refine W.seq (W.chunk ?_)
        simp (disch := first|omega|exact zE rfl|exact zO|exact zL rfl) [c41_o9, zG, q]
        refine W.seq (W.chunk ?_)
        simp (disch := first|omega|exact zE rfl|exact zO|exact zL rfl) [c41_o10, zG, q]
        refine W.seq (W.chunk ?_)
        simp (disch := first|omega|exact zE rfl|exact zO|exact zL rfl) [c41_o11, zG, q]
        refine W.block ?_
        refine W.use (l0) (by simp (disch := first|omega|exact zE rfl|exact zO|exact zL rfl) [zG, q]) fun s1 H1 hp => ?_
        obtain ⟨rfl, q⟩ := hp
        try simp only [zW, if_true]
        refine W.chunk ?_
        simp (disch := first|omega|exact zE rfl|exact zO|exact zL rfl) [c41_o19, zG, q]
        exact kR _ _ ⟨⟨kk, hs⟩, by simp [T.get, q]⟩
      · have l0 := l0.2 hs
        have kR := kB (by rw [hc, decide_eq_false hs]; rfl)
        clear kA kB lf l75 rv sx
        generalize hra : rA S N f = aa at *
        generalize hnn : S.length = n at *
        refine W.trim ?_
        refine W.seq (W.chunk ?_)
        simp (disch := first|omega|exact zE rfl|exact zO|exact zL rfl) [c41_o6, zG, q]
        refine W.seq (W.chunk ?_)
        simp (disch := first|omega|exact zE rfl|exact zO|exact zL rfl) [zG, q]
        refine W.seq (W.block ?_)
        refine W.seq (W.chunk ?_)
        simp (disch := first|omega|exact zE rfl|exact zO|exact zL rfl) [c41_o7, zG, q]
        refine W.seq (W.chunk ?_)
        simp (disch := first|omega|exact zE rfl|exact zO|exact zL rfl) [c41_o8, zG, q, e75, app_if, app_if', hZ]
        refine W.assoc ?_
        refine W.seq (W.chunk ?_)
        simp (disch := first|omega|exact zE rfl|exact zO|exact zL rfl) [c41_o9, zG, q]
        refine W.seq (W.chunk ?_)
        simp (disch := first|omega|exact zE rfl|exact zO|exact zL rfl) [c41_o10, zG, q]
        refine W.seq (W.chunk ?_)
        simp (disch := first|omega|exact zE rfl|exact zO|exact zL rfl) [c41_o11, zG, q]
        refine W.block ?_
        refine W.use (l0) (by simp (disch := first|omega|exact zE rfl|exact zO|exact zL rfl) [zG, q]) fun s1 H1 hp => ?_
        try simp only [zW, if_true]
        exact kR _ _ hp
  exact ⟨fun hs => Tr.w fun s1 H1 hp Q kR => main s1 H1 Q hp.1.1 hp.1.2 hp.2 (fun _ => kR) (fun h => by rw [hs] at h; cases h), fun hs => Tr.w fun s1 H1 hp Q kR => main s1 H1 Q hp.1.1 hp.1.2 hp.2 (fun h => by rw [hs] at h; cases h) (fun _ => kR)⟩
theorem c41_l1_ok (J : CallF) (k70 : K70 J) (k75 : K75 J) (os : OkS S) {Hb : Heap} (lf : LF Hb p S) (N40 : N + 1 ≤ 40) :
    (okR S N = true → Tr tbl J c41_l1 (R1P S p N Hb 0) (.exit 0) (fun s h => s.get [false, true, false] = G (rA S N S.length) ∧ True)) ∧
    (okR S N = false → Tr tbl J c41_l1 (R1P S p N Hb 0) .ret (fun s h => s.get [true, true] = G 0 ∧ s.get [false, false, false] = G 5)) := by
  have fin : Tr tbl J (.trim [[true], [true, false, false], [false, true, false], [false, false, true, false, false], [true, false, true, false, false]] c41_b1) (R1P S p N Hb S.length) (.exit 0) (fun s h => s.get [false, true, false] = G (rA S N S.length) ∧ True) := by
    unfold R1P
    generalize rA S N S.length = aa at *
    generalize hnn : S.length = n at *
    refine Tr.w fun s1 H1 hp2 _ kR => W.trim ?_
    obtain ⟨_, q⟩ := hp2
    refine W.seq (W.chunk ?_)
    simp (disch := first|omega|exact zE rfl|exact zO|exact zL rfl) [c41_o6, zG, q]
    refine W.seq (W.chunk ?_)
    simp (disch := first|omega|exact zE rfl|exact zO|exact zL rfl) [zG, q]
    exact kR _ _ (by simp [T.get, q])
  exact ⟨fun h => Tr.allT (P := R1P S p N Hb) (p := gE S N) _ (fun f hf hp => (c41_b1_ok J k70 k75 os lf N40 hf).1 hp) fin (by simp) _ 0 (by omega) h,
    fun h => Tr.allF (P := R1P S p N Hb) (p := gE S N) _ (fun f hf hp => (c41_b1_ok J k70 k75 os lf N40 hf).1 hp) (fun f hf hp => (c41_b1_ok J k70 k75 os lf N40 hf).2 hp) (by simp) _ 0 (by omega) h⟩
end
def AR.rn (a : AR) (m : Int) (n : Nat) : Nat := rA (a.steps m) (n - 1) (a.steps m).length
def AR.okr (a : AR) (m : Int) (n : Nat) : Bool := okR (a.steps m) (n - 1)
def AR.rngV (a : AR) (m n : Int) : AV := if a.gd m n 1 then (if a.okr m n.toNat then .tup [G (a.rn m n.toNat), G 0] else .tup [G 0, G 5]) else .tup [G 0, G 2]
section
variable {a : AR} {m n : Int}
theorem c41_0 (J : CallF) (k57 : KR 57 J) (k60 : K60 J) (hJ : ∀ a h, J 41 a h = none) (h : Heap) (o : OkR a h) (g : a.gd m n 1 = false) : CallsTo tbl J 41 [a.v, G m, G n] h (.tup [G 0, G 2], [], false) := by
  refine Tr.fnv (cf := c41) (e := .ret) (s := T.set (T.set (T.set .leaf [] a.v) [false] (G m)) [true] (G n)) (by decide) rfl (hJ _ _) rfl rfl rfl (by simp) ?_
  obtain ⟨k1, k2⟩ := rs_pre (m := m) J k57 k60 o
  have k3 := k60 n 1 40 ⟨h.get, h.size, [.cells 0 3 [G a.q, a.x, a.y]]⟩
  refine Tr.post (Q := (fun s h => s.get [true, true] = G 0 ∧ s.get [false, false, false] = G 2)) (fun s h q => by simp [c41, q]) ?_
  unfold AR.gd AR.rm at g
  generalize a.ru = b1 at *
  generalize decide (1 ≤ m ∧ m ≤ 5) = b2 at *
  generalize decide (1 ≤ n ∧ n ≤ 40) = b3 at *
  refine Tr.w fun s1 H1 hp _ kR => ?_
  obtain ⟨rfl, rfl⟩ := hp
  have q : True := trivial
  cases b1
  · refine W.seq (W.chunk ?_)
    simp (disch := first|omega|exact zE rfl|exact zO|exact zL rfl) [c41_o0, size_mk, get_mk_lt, get_mk_ge, frameOf, Eff.app, Heap.setOwn, q]
    refine W.assoc ?_
    refine W.seq (W.chunk ?_)
    simp (disch := first|omega|exact zE rfl|exact zO|exact zL rfl) [c41_o1, size_mk, get_mk_lt, get_mk_ge, frameOf, Eff.app, Heap.setOwn, q, k1, k2, k3]
    refine W.seq (W.chunk ?_)
    simp (disch := first|omega|exact zE rfl|exact zO|exact zL rfl) [c41_o2, size_mk, get_mk_lt, get_mk_ge, frameOf, Eff.app, Heap.setOwn, q]
    exact kR _ _ (by simp [T.get])
  · cases b2
    · refine W.seq (W.chunk ?_)
      simp (disch := first|omega|exact zE rfl|exact zO|exact zL rfl) [c41_o0, size_mk, get_mk_lt, get_mk_ge, frameOf, Eff.app, Heap.setOwn, q]
      refine W.assoc ?_
      refine W.seq (W.chunk ?_)
      simp (disch := first|omega|exact zE rfl|exact zO|exact zL rfl) [c41_o1, size_mk, get_mk_lt, get_mk_ge, frameOf, Eff.app, Heap.setOwn, q, k1, k2, k3]
      refine W.seq (W.chunk ?_)
      simp (disch := first|omega|exact zE rfl|exact zO|exact zL rfl) [c41_o2, size_mk, get_mk_lt, get_mk_ge, frameOf, Eff.app, Heap.setOwn, q]
      exact kR _ _ (by simp [T.get])
    · have : b3 = false := by simpa using g
      subst this
      refine W.seq (W.chunk ?_)
      simp (disch := first|omega|exact zE rfl|exact zO|exact zL rfl) [c41_o0, size_mk, get_mk_lt, get_mk_ge, frameOf, Eff.app, Heap.setOwn, q]
      refine W.assoc ?_
      refine W.seq (W.chunk ?_)
      simp (disch := first|omega|exact zE rfl|exact zO|exact zL rfl) [c41_o1, size_mk, get_mk_lt, get_mk_ge, frameOf, Eff.app, Heap.setOwn, q, k1, k2, k3]
      refine W.seq (W.chunk ?_)
      simp (disch := first|omega|exact zE rfl|exact zO|exact zL rfl) [c41_o2, size_mk, get_mk_lt, get_mk_ge, frameOf, Eff.app, Heap.setOwn, q]
      exact kR _ _ (by simp [T.get])
theorem c41_1 (J : CallF) (k57 : KR 57 J) (k60 : K60 J) (k61 : K61 J) (k70 : K70 J) (k75 : K75 J) (hJ : ∀ a h, J 41 a h = none) (h : Heap) (o : OkR a h) (g : a.gd m n 1 = true) : CallsTo tbl J 41 [a.v, G m, G n] h (a.rngV m n, [], false) := by
  unfold AR.rngV
  rw [if_pos g]
  unfold AR.gd at g
  simp only [Bool.and_eq_true, decide_eq_true_eq] at g
  obtain ⟨r, n1, n2⟩ := g
  obtain ⟨r1, r2⟩ := a.rm_iff r
  obtain ⟨os, s243, sr⟩ := AR.steps_ok r
  obtain ⟨k1, k2⟩ := rs_pre (m := m) J k57 k60 o
  have k3 := k60 n 1 40 ⟨h.get, h.size, [.cells 0 3 [G a.q, a.x, a.y]]⟩
  rw [r1] at k1
  rw [decide_eq_true r2] at k2
  rw [decide_eq_true ⟨n1, n2⟩] at k3
  obtain ⟨Hs, hHs⟩ : ∃ H, (⟨h.get, h.size, [.cells 0 3 [G a.q, a.x, a.y]]⟩ : Heap) = H := ⟨_, rfl⟩
  rw [hHs] at k1 k2 k3
  have oH : OkR a Hs := by rw [← hHs]; exact o.lo _
  have gS : Hs.get h.size = .cells 0 3 [G a.q, a.x, a.y] := by rw [← hHs, get_mk_ge _ _ _ _ (Nat.le_refl _), Nat.sub_self]; rfl
  obtain ⟨p, own, e61, lm⟩ := k61 Hs a.g m.toNat (oH.g r1) (by omega)
  rw [a.gv r1, show ((m.toNat : Nat) : Int) = m by omega] at e61
  obtain ⟨Z, hZ⟩ : ∃ Z, Hs.plus own = Z := ⟨_, rfl⟩
  rw [hZ] at lm
  have lf : LF Z p (a.steps m) := lm.lf
  obtain ⟨N, hN⟩ : ∃ N, n.toNat = N + 1 := ⟨n.toNat - 1, by omega⟩
  have nN : n = ((N + 1 : Nat) : Int) := by omega
  have l1 := c41_l1_ok J k70 k75 os lf (show N + 1 ≤ 40 by omega)
  have r0 : rA (a.steps m) N 0 = 0 := by simp [rA]
  unfold R1P at l1
  rw [r0] at l1
  obtain ⟨x, mb, nx, rs, g1, sx, _⟩ := lf
  have e1 : Kp (fun _ => False) Z Z := Kp.refl _
  unfold AR.okr AR.rn
  rw [hN, Nat.add_sub_cancel]
  rw [nN]
  have k40 : ((N + 1 : Nat) : Int) = (N : Int) + 1 := by omega
  rw [nN] at k3
  rw [k40] at k3 l1 ⊢
  clear lm os oH o nN
  generalize hln : (a.steps m).length = ln at *
  cases hc : okR (a.steps m) N
  · rw [if_neg (by simp)]
    have l1 := l1.2 hc
    refine Tr.fnv (cf := c41) (e := .ret) (s := T.set (T.set (T.set .leaf [] a.v) [false] (G m)) [true] (G ((N : Int) + 1))) (by decide) rfl (hJ _ _) rfl rfl rfl (by simp) ?_
    refine Tr.post (Q := (fun s h => s.get [true, true] = G 0 ∧ s.get [false, false, false] = G 5)) (fun s h q => by simp [c41, q]) ?_
    have z0 : ((0 : Nat) : Int) = 0 := rfl
    rcases sx with ⟨rfl, rfl⟩ | ⟨b1, v1, rfl⟩
    all_goals
      refine Tr.w fun s1 H1 hp _ kR => ?_
      obtain ⟨rfl, rfl⟩ := hp
      have q : True := trivial
      refine W.seq (W.chunk ?_)
      simp (disch := first|omega|exact zE rfl|exact zO|exact zL rfl) [c41_o0, size_mk, get_mk_lt, get_mk_ge, frameOf, Eff.app, Heap.setOwn, q, hHs]
      refine W.assoc ?_
      refine W.seq (W.chunk ?_)
      simp (disch := first|omega|exact zE rfl|exact zO|exact zL rfl) [c41_o1, zG, q, k1, k2, k3, gS]
      refine W.seq (W.chunk ?_)
      simp (disch := first|omega|exact zE rfl|exact zO|exact zL rfl) [c41_o2, size_mk, get_mk_lt, get_mk_ge, frameOf, Eff.app, Heap.setOwn, q]
      refine W.seq (W.chunk ?_)
      simp (disch := first|omega|exact zE rfl|exact zO|exact zL rfl) [c41_o3, zG, q, gS, e61, app_if, app_if', hZ]
      refine W.seq (W.chunk ?_)
      simp (disch := first|omega|exact zE rfl|exact zO|exact zL rfl) [c41_o4, zG, q]
      refine W.assoc ?_
      refine W.seq (W.chunk ?_)
      simp (disch := first|omega|exact zE rfl|exact zO|exact zL rfl) [c41_o5, zG, q, g1]
      refine W.seq (W.block ?_)
      refine W.use (l1) (by simp (disch := first|omega|exact zE rfl|exact zO|exact zL rfl) [size_mk, get_mk_lt, get_mk_ge, frameOf, Eff.app, Heap.setOwn, q, e1]) fun s1 H1 hp => ?_
      try simp only [zW, if_true]
      exact kR _ _ hp
  · rw [if_pos rfl]
    have l1 := l1.1 hc
    refine Tr.fnv (cf := c41) (e := .ret) (s := T.set (T.set (T.set .leaf [] a.v) [false] (G m)) [true] (G ((N : Int) + 1))) (by decide) rfl (hJ _ _) rfl rfl rfl (by simp) ?_
    refine Tr.post (Q := (fun s h => s.get [true, true] = G (rA (a.steps m) N ln) ∧ s.get [false, false, false] = G 0)) (fun s h q => by simp [c41, q]) ?_
    generalize rA (a.steps m) N ln = z at *
    rcases sx with ⟨rfl, rfl⟩ | ⟨b1, v1, rfl⟩
    all_goals
      refine Tr.w fun s1 H1 hp _ kR => ?_
      obtain ⟨rfl, rfl⟩ := hp
      have q : True := trivial
      refine W.seq (W.chunk ?_)
      simp (disch := first|omega|exact zE rfl|exact zO|exact zL rfl) [c41_o0, size_mk, get_mk_lt, get_mk_ge, frameOf, Eff.app, Heap.setOwn, q, hHs]
      refine W.assoc ?_
      refine W.seq (W.chunk ?_)
      simp (disch := first|omega|exact zE rfl|exact zO|exact zL rfl) [c41_o1, zG, q, k1, k2, k3, gS]
      refine W.seq (W.chunk ?_)
      simp (disch := first|omega|exact zE rfl|exact zO|exact zL rfl) [c41_o2, size_mk, get_mk_lt, get_mk_ge, frameOf, Eff.app, Heap.setOwn, q]
      refine W.seq (W.chunk ?_)
      simp (disch := first|omega|exact zE rfl|exact zO|exact zL rfl) [c41_o3, zG, q, gS, e61, app_if, app_if', hZ]
      refine W.seq (W.chunk ?_)
      simp (disch := first|omega|exact zE rfl|exact zO|exact zL rfl) [c41_o4, zG, q]
      refine W.assoc ?_
      refine W.seq (W.chunk ?_)
      simp (disch := first|omega|exact zE rfl|exact zO|exact zL rfl) [c41_o5, zG, q, g1]
      refine W.seq (W.block ?_)
      refine W.use (l1) (by simp (disch := first|omega|exact zE rfl|exact zO|exact zL rfl) [size_mk, get_mk_lt, get_mk_ge, frameOf, Eff.app, Heap.setOwn, q, e1]) fun s1 H1 hp => ?_
      obtain ⟨q, _⟩ := hp
      try simp only [zW, if_true]
      refine W.seq (W.chunk ?_)
      simp (disch := first|omega|exact zE rfl|exact zO|exact zL rfl) [c41_o20, zG, q]
      refine W.ret ?_
      try simp only [zW, if_true]
      exact kR _ _ (by simp [T.get, q])
end
def Post41 (b : ARmn) (h : Heap) (v : AV) (own : List AObj) : Prop := v = b.a.rngV b.m b.n ∧ own = []
noncomputable def T45 : CallF := addK tbl T44 41 PreMn Post41
theorem t45 : Sound Go.Proofs.Try.prog T45 := Sound.addK follows ok t44 (by decide) _ _
abbrev K41 (J : CallF) : Prop := ∀ (h : Heap) (a : AR) (m n : Int), OkR a h → J 41 [a.v, G m, G n] h = some (a.rngV m n, [], false)
theorem k57_44 : KR 57 T44 := fun h a o => by
  rw [show T44 57 [.agg [G a.q, a.x, a.y]] h = T10 57 [.agg [G a.q, a.x, a.y]] h from by simp (disch := decide) only [T11, T12, T13, T14, T15, T16, T17, T18, T19, T20, T21, T22, T23, T24, T25, T26, T27, T28, T29, T30, T31, T32, T33, T34, T35, T36, T37, T38, T39, T40, T41, T42, T43, T44, addI_ne, addX_ne, addV_ne, addK_ne]]; exact k57 h a o
theorem k60_44 : K60 T44 := fun n lo hi h => by
  simp (disch := decide) only [T1, T2, T3, T4, T5, T6, T7, T8, T9, T10, T11, T12, T13, T14, T15, T16, T17, T18, T19, T20, T21, T22, T23, T24, T25, T26, T27, T28, T29, T30, T31, T32, T33, T34, T35, T36, T37, T38, T39, T40, T41, T42, T43, T44, addI_ne, addX_ne, addV_ne, addK_ne]
  exact k60 n lo hi h
theorem k61_44 : K61 T44 := fun h a m o m5 => by
  obtain ⟨p, own, e, l⟩ := k61 h a m o m5
  exact ⟨p, own, by rw [show T44 61 [a.v, G m] h = T18 61 [a.v, G m] h from by simp (disch := decide) only [T19, T20, T21, T22, T23, T24, T25, T26, T27, T28, T29, T30, T31, T32, T33, T34, T35, T36, T37, T38, T39, T40, T41, T42, T43, T44, addI_ne, addX_ne, addV_ne, addK_ne]]; exact e, l⟩
theorem k70_44 : K70 T44 := fun h x v L h1 h2 => by
  rw [show T44 70 [x, G v] h = T43 70 [x, G v] h from by simp (disch := decide) only [T44, addI_ne, addX_ne, addV_ne, addK_ne]]; exact k70 h x v L h1 h2
theorem k41 : K41 T45 := fun h a m n o => by
  obtain ⟨v, own, e, rfl, rfl⟩ := addK_some (Pre := PreMn) (Post := Post41) (fun b args h hp => by
    obtain ⟨o, rfl⟩ := hp
    cases g : b.a.gd b.m b.n 1
    · have := c41_0 T44 k57_44 k60_44 (fun _ _ => by simp (disch := decide) only [T1, T2, T3, T4, T5, T6, T7, T8, T9, T10, T11, T12, T13, T14, T15, T16, T17, T18, T19, T20, T21, T22, T23, T24, T25, T26, T27, T28, T29, T30, T31, T32, T33, T34, T35, T36, T37, T38, T39, T40, T41, T42, T43, T44, addI_ne, addX_ne, addV_ne, addK_ne]; rfl) h o g
      refine ⟨_, _, this, ?_, rfl⟩
      unfold AR.rngV
      rw [g]; rfl
    · exact ⟨_, _, c41_1 T44 k57_44 k60_44 k61_44 k70_44 k75 (fun _ _ => by simp (disch := decide) only [T1, T2, T3, T4, T5, T6, T7, T8, T9, T10, T11, T12, T13, T14, T15, T16, T17, T18, T19, T20, T21, T22, T23, T24, T25, T26, T27, T28, T29, T30, T31, T32, T33, T34, T35, T36, T37, T38, T39, T40, T41, T42, T43, T44, addI_ne, addX_ne, addV_ne, addK_ne]; rfl) h o g, rfl, rfl⟩) ⟨a, m, n⟩ _ h ⟨o, rfl⟩
  exact e
section
variable {S : List (List Nat)} {N p : Nat}
abbrev F42 (N p : Nat) (xr xs : AV) (out f : Nat) (s : T) : Prop := s.get [true] = G (N + 1 : Nat) ∧ s.get [false, false] = .ptr p 0 3 ∧ s.get [true, false, false] = xr ∧ s.get [false, true, false] = xs ∧ s.get [true, true, false] = G out ∧ s.get [false, false, true] = G f
abbrev Q0P (S : List (List Nat)) (N p : Nat) (xr xs : AV) (out f j b bn : Nat) (g : Nat → Nat) (Hk : Heap) (i t : Nat) : SP := fun s h => BZ Hk h b S.length (fun u => sat (pT S g i t u)) ∧ F42 N p xr xs out f s ∧ s.get [true, false, true] = .slice bn 0 S.length S.length ∧ s.get [false, true, true] = G j ∧ s.get [true, true, true] = .slice b 0 S.length S.length ∧ s.get [false, false, false, false] = G i ∧ s.get [true, false, false, false] = G t
theorem c42_l0_ok (J : CallF) (k76 : K76 J) {xr xs : AV} {out f j b bn : Nat} {g : Nat → Nat} {Hk : Heap} (ln : LN Hk xs S) (os : OkS S) (hb : Hk.size ≤ b) (hN : Hk.N ≤ b) (gn0 : Hk.get bn = .cells 1 S.length (gn (lN g S.length))) {i : Nat} (hi : i < S.length) (hg : g i ≤ 1152921504606846976) :
    Tr tbl J c42_l0 (Q0P S N p xr xs out f j b bn g Hk i 0) (.exit 6) (fun s h => BZ Hk h b S.length (fun u => sat (pE S g (i + 1) u)) ∧ F42 N p xr xs out f s ∧ s.get [true, false, true] = .slice bn 0 S.length S.length ∧ s.get [false, true, true] = G j ∧ s.get [true, true, true] = .slice b 0 S.length S.length ∧ s.get [false, false, false, false] = G i) := by
  have n2 := os.n
  have l2 := os.len i
  obtain ⟨rs, h1, h2, h3⟩ := ln
  obtain ⟨bx, rfl, gx⟩ : ∃ b, xs = .slice b 0 S.length S.length ∧ Hk.get b = .cells 1 S.length rs := by
    rcases h1 with ⟨_, e⟩ | h
    · omega
    · exact h
  obtain ⟨y, ey, rv⟩ := h3 i hi
  have ey' := getI ey
  have en := lN_at g hi
  have en' := getI en
  have ln3 := lN_len g S.length
  have sy := rv.sl
  rw [gn_len] at sy
  unfold Q0P F42
  by_cases hz : g i = 0
  · refine Tr.out ?_ (by simp)
    rw [hz] at en en'
    refine Tr.w fun s1 H1 hp _ kR => W.trim ?_
    obtain ⟨bz, q⟩ := hp
    have bz2 : BZ Hk H1 b S.length (fun u => sat (pE S g (i + 1) u)) := by
      refine ⟨bz.kp, ?_⟩
      rw [bz.g, lN_ext (g := fun u => sat (pE S g (i + 1) u)) fun u _ => by rw [pT_0, pT_z S g i u hz]]
    have a1 := bz.kp.at gx (by simp) id
    have a2 := bz.kp.at gn0 (by simp) id
    clear bz gn0 gx h1 h3 rv
    generalize gn (lN g S.length) = cs at *
    generalize (S.getD i []).length = l at *
    generalize hnn : S.length = n at *
    have l0 : l = 0 ∨ 0 < l := Nat.eq_zero_or_pos l
    rcases sy with ⟨rfl, rfl⟩ | ⟨b1, v1, rfl⟩
    · refine W.assoc ?_
      refine W.seq (W.chunk ?_)
      simp (disch := first|omega|exact zE rfl|exact zO|exact zL rfl) [c42_o13, zG, q, a1, ey, ey', h2, a2, en, en', ln3]
      refine W.seq (W.chunk ?_)
      simp (disch := first|omega|exact zE rfl|exact zO|exact zL rfl) [zG, q]
      exact kR _ _ ⟨bz2, by simp [T.get, q]⟩
    · rcases l0 with rfl | l0
      · refine W.assoc ?_
        refine W.seq (W.chunk ?_)
        simp (disch := first|omega|exact zE rfl|exact zO|exact zL rfl) [c42_o13, zG, q, a1, ey, ey', h2, a2, en, en', ln3]
        refine W.seq (W.chunk ?_)
        simp (disch := first|omega|exact zE rfl|exact zO|exact zL rfl) [zG, q]
        exact kR _ _ ⟨bz2, by simp [T.get, q]⟩
      · refine W.assoc ?_
        refine W.seq (W.chunk ?_)
        simp (disch := first|omega|exact zE rfl|exact zO|exact zL rfl) [c42_o13, zG, q, a1, ey, ey', h2, a2, en, en', ln3]
        refine W.seq (W.chunk ?_)
        simp (disch := first|omega|exact zE rfl|exact zO|exact zL rfl) [zG, q]
        exact kR _ _ ⟨bz2, by simp [T.get, q]⟩
  · refine Tr.rounds (e := .exit 6) (P := fun t s h => BZ Hk h b S.length (fun u => sat (pT S g i t u)) ∧ (s.get [true] = G (N + 1 : Nat) ∧ s.get [false, false] = .ptr p 0 3 ∧ s.get [true, false, false] = xr ∧ s.get [false, true, false] = .slice bx 0 S.length S.length ∧ s.get [true, true, false] = G out ∧ s.get [false, false, true] = G f) ∧ s.get [true, false, true] = .slice bn 0 S.length S.length ∧ s.get [false, true, true] = G j ∧ s.get [true, true, true] = .slice b 0 S.length S.length ∧ s.get [false, false, false, false] = G i ∧ s.get [true, false, false, false] = G t) (M := (S.getD i []).length) (fun t ht => ?_) ?_ (by simp) 0 (by omega)
    · obtain ⟨by', vy, rfl, gy⟩ : ∃ b v, y = .slice b 0 (S.getD i []).length v ∧ Hk.get b = .cells 1 v (gn (S.getD i [])) := by
        rcases rv with ⟨_, e⟩ | ⟨b, v, e, g⟩
        · have : (gn (S.getD i [])).length = 0 := by rw [e]; rfl
          rw [gn_len] at this; omega
        · rw [gn_len] at e; exact ⟨b, v, e, g⟩
      refine Tr.w fun s1 H1 hp _ kR => W.trim ?_
      obtain ⟨bz, q⟩ := hp
      have a1 := bz.kp.at gx (by simp) id
      have a2 := bz.kp.at gn0 (by simp) id
      have a3 := bz.kp.at gy (by simp) id
      have e1 := gn_at ht
      have e1' := getI e1
      have lg := gn_len (S.getD i [])
      have hj : (S.getD i []).getD t 0 < S.length := os.lt i _ (by
        rw [List.getD_eq_getElem?_getD (l := S.getD i []), List.getElem?_eq_getElem ht]; exact List.getElem_mem _)
      have e2 := lN_at (fun u => sat (pT S g i t u)) hj
      have e2' := getI e2
      have l3 := lN_len (fun u => sat (pT S g i t u)) S.length
      have sx := fun u => pT_succ S g i u ht
      have sj := sx ((S.getD i []).getD t 0)
      rw [if_pos rfl] at sj
      have k := k76 H1 (sat (pT S g i t ((S.getD i []).getD t 0))) (g i) (by have := sat_le (pT S g i t ((S.getD i []).getD t 0)); omega) (by omega)
      rw [sat_add, ← sj] at k
      have hNh : H1.N ≤ b := by rw [bz.kp.N]; exact hN
      have gb := bz.g
      have fx : (gn (lN (fun u => sat (pT S g i t u)) S.length)).set ((S.getD i []).getD t 0) (G (sat (pT S g i (t + 1) ((S.getD i []).getD t 0)))) = gn (lN (fun u => sat (pT S g i (t + 1) u)) S.length) := by
        rw [lN_set _ hj]
        congr 1
        apply lN_ext
        intro u _
        by_cases e : u = (S.getD i []).getD t 0
        · rw [if_pos e, e]
        · rw [if_neg e, sx u, if_neg e]
      have p1 : Eff.app (.put b S.length ((S.getD i []).getD t 0) [G (sat (pT S g i (t + 1) ((S.getD i []).getD t 0)))]) H1 = some (H1.upd b (.cells 1 S.length (gn (lN (fun u => sat (pT S g i (t + 1) u)) S.length)))) := by
        rw [put_gen H1 b S.length _ 1 _ _ hNh gb (by rw [lN_len, List.length_singleton]; omega)]
        simp only [putAt]
        rw [fx]
      have bz2 : BZ Hk (H1.upd b (.cells 1 S.length (gn (lN (fun u => sat (pT S g i (t + 1) u)) S.length)))) b S.length (fun u => sat (pT S g i (t + 1) u)) := ⟨bz.kp.updn b _ hNh hb, upd_same _ _ _ hNh (get_lt gb (by simp))⟩
      have k1 : ((N + 1 : Nat) : Int) = (N : Int) + 1 := by omega
      rw [k1] at q kR
      clear bz gn0 gx gy h1 h3 rv fx sx sj k1
      generalize gn (lN g S.length) = cs at *
      generalize gn (lN (fun u => sat (pT S g i (t + 1) u)) S.length) = cm' at *
      generalize gn (lN (fun u => sat (pT S g i t u)) S.length) = cm at *
      generalize gn (S.getD i []) = ci at *
      generalize sat (pT S g i (t + 1) ((S.getD i []).getD t 0)) = v1 at *
      generalize sat (pT S g i t ((S.getD i []).getD t 0)) = v0 at *
      generalize (S.getD i []).getD t 0 = jj at *
      generalize (S.getD i []).length = l at *
      generalize hnn : S.length = n at *
      have gpos : (0 : Int) < g i := by omega
      refine W.assoc ?_
      refine W.seq (W.chunk ?_)
      simp (disch := first|omega|exact zE rfl|exact zO|exact zL rfl) [c42_o13, zG, q, a1, ey, ey', h2, a2, en, en', ln3]
      refine W.seq (W.chunk ?_)
      simp (disch := first|omega|exact zE rfl|exact zO|exact zL rfl) [zG, q]
      refine W.seq (W.block ?_)
      refine W.chunk ?_
      simp (disch := first|omega|exact zE rfl|exact zO|exact zL rfl) [c42_o14, zG, q, a1, ey, ey', h2, a2, en, en', ln3, a3, e1, e1', lg, gb, e2, e2', l3, k, p1, -evDraw_c, evDraw_0]
      refine W.chunk ?_
      simp (disch := first|omega|exact zE rfl|exact zO|exact zL rfl) [c42_o15, zG, q]
      exact kR _ _ ⟨bz2, by simp [T.get, q]⟩
    · refine Tr.w fun s1 H1 hp _ kR => W.trim ?_
      obtain ⟨bz, q⟩ := hp
      have bz2 : BZ Hk H1 b S.length (fun u => sat (pE S g (i + 1) u)) := by
        refine ⟨bz.kp, ?_⟩
        rw [bz.g, lN_ext (g := fun u => sat (pE S g (i + 1) u)) fun u _ => by rw [pT_n]]
      have a1 := bz.kp.at gx (by simp) id
      clear bz gn0 gx h1 h3 rv
      generalize (S.getD i []).length = l at *
      generalize hnn : S.length = n at *
      rcases sy with ⟨rfl, rfl⟩ | ⟨b1, v1, rfl⟩
      all_goals
        refine W.assoc ?_
        refine W.seq (W.chunk ?_)
        simp (disch := first|omega|exact zE rfl|exact zO|exact zL rfl) [c42_o13, zG, q, a1, ey, ey', h2]
        refine W.seq (W.chunk ?_)
        simp (disch := first|omega|exact zE rfl|exact zO|exact zL rfl) [zG, q]
        exact kR _ _ ⟨bz2, by simp [T.get, q]⟩
abbrev Q1P (S : List (List Nat)) (N p : Nat) (xr xs : AV) (out f j b bn : Nat) (g : Nat → Nat) (Hk : Heap) (i : Nat) : SP := fun s h => BZ Hk h b S.length (fun u => sat (pE S g i u)) ∧ F42 N p xr xs out f s ∧ s.get [true, false, true] = .slice bn 0 S.length S.length ∧ s.get [false, true, true] = G j ∧ s.get [true, true, true] = .slice b 0 S.length S.length ∧ s.get [false, false, false, false] = G i
abbrev Q1Q (S : List (List Nat)) (N p : Nat) (xr xs : AV) (out f j b : Nat) (g : Nat → Nat) (Hk : Heap) : SP := fun s h => BZ Hk h b S.length (fun u => sat (pE S g S.length u)) ∧ F42 N p xr xs out f s ∧ s.get [false, true, true] = G j ∧ s.get [true, true, true] = .slice b 0 S.length S.length
theorem c42_l1_ok (J : CallF) (k76 : K76 J) {xr xs : AV} {out f j b bn br vr : Nat} {g : Nat → Nat} {Hk : Heap} (er : xr = .slice br 0 S.length vr) (ln : LN Hk xs S) (os : OkS S) (hb : Hk.size ≤ b) (hN : Hk.N ≤ b) (gn0 : Hk.get bn = .cells 1 S.length (gn (lN g S.length))) (hg : ∀ i, i < S.length → g i ≤ 1152921504606846976) :
    Tr tbl J c42_l1 (Q1P S N p xr xs out f j b bn g Hk 0) (.exit 4) (Q1Q S N p xr xs out f j b g Hk) := by
  have n2 := os.n
  subst er
  refine Tr.rounds (e := .exit 4) (P := Q1P S N p (.slice br 0 S.length vr) xs out f j b bn g Hk) (M := S.length) (fun i hi => ?_) ?_ (by simp) 0 (by omega)
  · have l0 := c42_l0_ok (N := N) (p := p) (xr := .slice br 0 S.length vr) (out := out) (f := f) (j := j) J k76 ln os hb hN gn0 hi (hg i hi)
    unfold Q1P
    unfold Q0P at l0
    unfold F42 at *
    refine Tr.w fun s1 H1 hp _ kR => W.trim ?_
    obtain ⟨bz, q⟩ := hp
    have bz0 : BZ Hk H1 b S.length (fun u => sat (pT S g i 0 u)) := by
      refine ⟨bz.kp, ?_⟩
      rw [bz.g, lN_ext (g := fun u => sat (pT S g i 0 u)) fun u _ => by rw [pT_0]]
    have k1 : ((N + 1 : Nat) : Int) = (N : Int) + 1 := by omega
    rw [k1] at q kR l0
    clear bz ln gn0 k1
    generalize hnn : S.length = n at *
    refine W.assoc ?_
    refine W.seq (W.chunk ?_)
    simp (disch := first|omega|exact zE rfl|exact zO|exact zL rfl) [c42_o11, zG, q]
    refine W.seq (W.chunk ?_)
    simp (disch := first|omega|exact zE rfl|exact zO|exact zL rfl) [zG, q]
    refine W.seq (W.block ?_)
    refine W.seq (W.chunk ?_)
    simp (disch := first|omega|exact zE rfl|exact zO|exact zL rfl) [c42_o12, zG, q]
    refine W.block ?_
    refine W.use (l0) (by simp (disch := first|omega|exact zE rfl|exact zO|exact zL rfl) [zG, q, bz0]) fun s1 H1 hp => ?_
    obtain ⟨bz, q⟩ := hp
    try simp only [zW, if_true]
    refine W.chunk ?_
    simp (disch := first|omega|exact zE rfl|exact zO|exact zL rfl) [c42_o16, zG, q]
    exact kR _ _ ⟨bz, by simp [T.get, q]⟩
  · unfold Q1P Q1Q F42
    refine Tr.w fun s1 H1 hp _ kR => W.trim ?_
    obtain ⟨bz, q⟩ := hp
    clear ln gn0
    generalize hnn : S.length = n at *
    refine W.assoc ?_
    refine W.seq (W.chunk ?_)
    simp (disch := first|omega|exact zE rfl|exact zO|exact zL rfl) [c42_o11, zG, q]
    refine W.seq (W.chunk ?_)
    simp (disch := first|omega|exact zE rfl|exact zO|exact zL rfl) [zG, q]
    exact kR _ _ ⟨bz, by simp [T.get, q]⟩
abbrev Q2P (S : List (List Nat)) (N p : Nat) (xr xs : AV) (out f : Nat) (Hb : Heap) (k : Nat) : SP := fun s h => ∃ bn, (Kp (fun _ => False) Hb h ∧ h.get bn = .cells 1 S.length (gn (vE S f k)) ∧ ∀ i, i < S.length → ev S f k i ≤ 1152921504606846976) ∧ F42 N p xr xs out f s ∧ s.get [true, false, true] = .slice bn 0 S.length S.length ∧ s.get [false, true, true] = G (k + 1 : Nat)
theorem c42_b2_ok (J : CallF) (k72 : K72 J) (k76 : K76 J) {xr xs : AV} {out f br vr : Nat} {Hb : Heap} (er : xr = .slice br 0 S.length vr) (ln : LN Hb xs S) (os : OkS S) {k : Nat} (hk : k < N) (N40 : N + 1 ≤ 40) :
    ((vE S f (k + 1)).sum ≤ 1152921504606846976 → Tr tbl J (.trim [[true], [false, false], [true, false, false], [false, true, false], [true, true, false], [false, false, true], [true, false, true], [false, true, true]] c42_b2) (Q2P S N p xr xs out f Hb k) .normal (Q2P S N p xr xs out f Hb (k + 1))) ∧
    (¬ (vE S f (k + 1)).sum ≤ 1152921504606846976 → Tr tbl J (.trim [[true], [false, false], [true, false, false], [false, true, false], [true, true, false], [false, false, true], [true, false, true], [false, true, true]] c42_b2) (Q2P S N p xr xs out f Hb k) .ret (fun s h => s.get [true, true] = G 0 ∧ s.get [false, false, false] = .bool false)) := by
  have n2 := os.n
  have k1 : ((N + 1 : Nat) : Int) = (N : Int) + 1 := by omega
  have main : ∀ (s1 : T) (H1 : Heap) (Q : PQ) (bn : Nat), Kp (fun _ => False) Hb H1 → H1.get bn = .cells 1 S.length (gn (vE S f k)) → (∀ i, i < S.length → ev S f k i ≤ 1152921504606846976) → (F42 N p xr xs out f s1 ∧ s1.get [true, false, true] = .slice bn 0 S.length S.length ∧ s1.get [false, true, true] = G (k + 1 : Nat)) →
      ((vE S f (k + 1)).sum ≤ 1152921504606846976 → ∀ s' h', Q2P S N p xr xs out f Hb (k + 1) s' h' → Q .normal s' h') → (¬ (vE S f (k + 1)).sum ≤ 1152921504606846976 → ∀ s' h', ((fun s h => s.get [true, true] = G 0 ∧ s.get [false, false, false] = .bool false) : SP) s' h' → Q .ret s' h') → W tbl J (.trim [[true], [false, false], [true, false, false], [false, true, false], [true, true, false], [false, false, true], [true, false, true], [false, true, true]] c42_b2) s1 H1 Q := fun s1 H1 Q bn kH g0 hg q kA kB => by
    obtain ⟨b, hbe⟩ : ∃ b, H1.size = b := ⟨_, rfl⟩
    have hN : H1.N ≤ b := by rw [← hbe]; unfold Heap.size; omega
    have l1 := c42_l1_ok (N := N) (p := p) (out := out) (f := f) (j := k + 1) (g := ev S f k) J k76 er (ln.kp kH) os (show H1.size ≤ b by omega) hN g0 hg
    have bz0 : BZ H1 (H1.plus [.cells 1 S.length (List.replicate S.length (G 0))]) b S.length (fun u => sat (pE S (ev S f k) 0 u)) := by
      refine ⟨Kp.plus _ _, ?_⟩
      rw [plus_at0 _ _ _ _ hbe, lN_zero]
      congr 2
    have mk1 : mkSl H1 8 (G 0) S.length = some (.slice b 0 S.length S.length, { eff := .grow [.cells 1 S.length (List.replicate S.length (G 0))] }) := by
      rw [mkSl_ok _ _ _ _ _ rfl (by omega), hbe]
    have tt : ∀ h, BZ H1 h b S.length (fun u => sat (pE S (ev S f k) S.length u)) → J 72 [.slice b 0 S.length S.length] h = some (G (sat (vE S f (k + 1)).sum), [], false) ∧ Kp (fun _ => False) Hb h ∧ ((vE S f (k + 1)).sum ≤ 1152921504606846976 → h.get b = .cells 1 S.length (gn (vE S f (k + 1))) ∧ ∀ i, i < S.length → ev S f (k + 1) i ≤ 1152921504606846976) := fun h bz => by
      have e0 : lN (fun u => sat (pE S (ev S f k) S.length u)) S.length = (vE S f (k + 1)).map sat := by
        unfold vE lN
        rw [List.map_map]; rfl
      have g := bz.g
      rw [e0] at g
      refine ⟨?_, kH.trans bz.kp, fun hs => ?_⟩
      · rw [k72 h _ ((vE S f (k + 1)).map sat) (.inr ⟨b, S.length, by rw [gn_len, List.length_map, vE_len], g⟩) (by rw [List.length_map, vE_len]; omega) (fun v hv => by
          obtain ⟨u, _, rfl⟩ := List.mem_map.1 hv
          have := sat_le u; omega), sat_sum]
      · have hle : ∀ i, i < S.length → ev S f (k + 1) i ≤ 1152921504606846976 := fun i hi => Nat.le_trans (sum_mem (lN_mem (f := ev S f (k + 1)) hi)) hs
        refine ⟨?_, hle⟩
        rw [g]
        have : (vE S f (k + 1)).map sat = vE S f (k + 1) := by
          conv => rhs; rw [← List.map_id (vE S f (k + 1))]
          apply List.map_congr_left
          intro u hu
          obtain ⟨i, hi, rfl⟩ := List.mem_map.1 hu
          exact sat_of (hle i (List.mem_range.1 hi))
        rw [this]
    subst er
    unfold Q1P Q1Q F42 at l1
    unfold F42 at q
    have k2 : ((k + 1 : Nat) : Int) = (k : Int) + 1 := by omega
    rw [k1] at q l1
    rw [k2] at q l1
    clear g0 hg kH ln
    by_cases hs : (vE S f (k + 1)).sum ≤ 1152921504606846976
    · have kR := kA hs
      unfold Q2P F42 at kR
      rw [k1] at kR
      have sz := sat_of hs
      clear kA kB
      generalize hsm : (vE S f (k + 1)).sum = sm at *
      generalize sat sm = z at *
      generalize List.replicate S.length (G 0) = rp at *
      generalize hnn : S.length = n at *
      refine W.trim ?_
      refine W.assoc ?_
      refine W.seq (W.chunk ?_)
      simp (disch := first|omega|exact zE rfl|exact zO|exact zL rfl) [c42_o8, zG, q]
      refine W.seq (W.chunk ?_)
      simp (disch := first|omega|exact zE rfl|exact zO|exact zL rfl) [zG, q]
      refine W.seq (W.block ?_)
      refine W.seq (W.chunk ?_)
      simp (disch := first|omega|exact zE rfl|exact zO|exact zL rfl) [-act, c42_o9, zG, q, act_move, act_mkSl, act_len1, mk1]
      refine W.assoc ?_
      refine W.seq (W.chunk ?_)
      simp (disch := first|omega|exact zE rfl|exact zO|exact zL rfl) [c42_o10, zG, q]
      refine W.seq (W.block ?_)
      refine W.use (l1) (by simp (disch := first|omega|exact zE rfl|exact zO|exact zL rfl) [zG, q, bz0]) fun s1 H1 hp => ?_
      obtain ⟨bz, q⟩ := hp
      try simp only [zW, if_true]
      refine W.seq (W.chunk ?_)
      simp (disch := first|omega|exact zE rfl|exact zO|exact zL rfl) [c42_o17, zG, q]
      obtain ⟨f1, f2, f3⟩ := tt _ bz
      refine W.seq (W.chunk ?_)
      simp (disch := first|omega|exact zE rfl|exact zO|exact zL rfl) [c42_o18, zG, q, f1]
      refine W.chunk ?_
      simp (disch := first|omega|exact zE rfl|exact zO|exact zL rfl) [c42_o19, zG, q]
      refine W.chunk ?_
      simp (disch := first|omega|exact zE rfl|exact zO|exact zL rfl) [c42_o20, zG, q]
      exact kR _ _ ⟨b, ⟨f2, (f3 hs).1, (f3 hs).2⟩, by simp [T.get, q]⟩
    · have kR := kB hs
      have sz := sat_gt.2 (show 1152921504606846976 < (vE S f (k + 1)).sum by omega)
      have sl := sat_le (vE S f (k + 1)).sum
      clear kA kB
      generalize hsm : (vE S f (k + 1)).sum = sm at *
      generalize sat sm = z at *
      generalize List.replicate S.length (G 0) = rp at *
      generalize hnn : S.length = n at *
      refine W.trim ?_
      refine W.assoc ?_
      refine W.seq (W.chunk ?_)
      simp (disch := first|omega|exact zE rfl|exact zO|exact zL rfl) [c42_o8, zG, q]
      refine W.seq (W.chunk ?_)
      simp (disch := first|omega|exact zE rfl|exact zO|exact zL rfl) [zG, q]
      refine W.seq (W.block ?_)
      refine W.seq (W.chunk ?_)
      simp (disch := first|omega|exact zE rfl|exact zO|exact zL rfl) [-act, c42_o9, zG, q, act_move, act_mkSl, act_len1, mk1]
      refine W.assoc ?_
      refine W.seq (W.chunk ?_)
      simp (disch := first|omega|exact zE rfl|exact zO|exact zL rfl) [c42_o10, zG, q]
      refine W.seq (W.block ?_)
      refine W.use (l1) (by simp (disch := first|omega|exact zE rfl|exact zO|exact zL rfl) [zG, q, bz0]) fun s1 H1 hp => ?_
      obtain ⟨bz, q⟩ := hp
      try simp only [zW, if_true]
      refine W.seq (W.chunk ?_)
      simp (disch := first|omega|exact zE rfl|exact zO|exact zL rfl) [c42_o17, zG, q]
      obtain ⟨f1, f2, f3⟩ := tt _ bz
      refine W.seq (W.chunk ?_)
      simp (disch := first|omega|exact zE rfl|exact zO|exact zL rfl) [c42_o18, zG, q, f1]
      refine W.chunk ?_
      simp (disch := first|omega|exact zE rfl|exact zO|exact zL rfl) [c42_o19, zG, q]
      exact kR _ _ (by simp [T.get, q])
  exact ⟨fun hs => Tr.w fun s1 H1 hp Q kR => by
    obtain ⟨bn, ⟨h1, h2, h3⟩, q⟩ := hp
    exact main s1 H1 Q bn h1 h2 h3 q (fun _ => kR) (fun h => absurd hs h), fun hs => Tr.w fun s1 H1 hp Q kR => by
    obtain ⟨bn, ⟨h1, h2, h3⟩, q⟩ := hp
    exact main s1 H1 Q bn h1 h2 h3 q (fun h => absurd h hs) (fun _ => kR)⟩
theorem c42_l2_ok (J : CallF) (k72 : K72 J) (k76 : K76 J) {xr xs : AV} {out f br vr : Nat} {Hb : Heap} (er : xr = .slice br 0 S.length vr) (ln : LN Hb xs S) (os : OkS S) (N40 : N + 1 ≤ 40) :
    (okE S f (N + 1) = true → Tr tbl J c42_l2 (Q2P S N p xr xs out f Hb 0) (.exit 2) (fun s h => ∃ bn, (Kp (fun _ => False) Hb h ∧ h.get bn = .cells 1 S.length (gn (vE S f N))) ∧ F42 N p xr xs out f s ∧ s.get [true, false, true] = .slice bn 0 S.length S.length)) ∧
    (okE S f (N + 1) = false → Tr tbl J c42_l2 (Q2P S N p xr xs out f Hb 0) .ret (fun s h => s.get [true, true] = G 0 ∧ s.get [false, false, false] = .bool false)) := by
  have fin : Tr tbl J (.trim [[true], [false, false], [true, false, false], [false, true, false], [true, true, false], [false, false, true], [true, false, true], [false, true, true]] c42_b2) (Q2P S N p xr xs out f Hb N) (.exit 2) (fun s h => ∃ bn, (Kp (fun _ => False) Hb h ∧ h.get bn = .cells 1 S.length (gn (vE S f N))) ∧ F42 N p xr xs out f s ∧ s.get [true, false, true] = .slice bn 0 S.length S.length) := by
    unfold Q2P F42
    refine Tr.w fun s1 H1 hp _ kR => W.trim ?_
    obtain ⟨bn, ⟨h1, h2, _⟩, q⟩ := hp
    generalize hnn : S.length = n at *
    refine W.assoc ?_
    refine W.seq (W.chunk ?_)
    simp (disch := first|omega|exact zE rfl|exact zO|exact zL rfl) [c42_o8, zG, q]
    refine W.seq (W.chunk ?_)
    simp (disch := first|omega|exact zE rfl|exact zO|exact zL rfl) [zG, q]
    exact kR _ _ ⟨bn, ⟨h1, h2⟩, by simp [T.get, q]⟩
  exact ⟨fun h => Tr.allT (P := Q2P S N p xr xs out f Hb) (p := fun k => decide ((vE S f (k + 1)).sum ≤ 1152921504606846976)) N (fun k hk hp => (c42_b2_ok J k72 k76 er ln os hk N40).1 (of_decide_eq_true hp)) fin (by simp) N 0 (by omega) h,
    fun h => Tr.allF (P := Q2P S N p xr xs out f Hb) (p := fun k => decide ((vE S f (k + 1)).sum ≤ 1152921504606846976)) N (fun k hk hp => (c42_b2_ok J k72 k76 er ln os hk N40).1 (of_decide_eq_true hp)) (fun k hk hp => (c42_b2_ok J k72 k76 er ln os hk N40).2 (of_decide_eq_false hp)) (by simp) N 0 (by omega) h⟩
end
def okA (S : List (List Nat)) (N : Nat) : Bool := af (fun f => okE S f (N + 1)) 0 S.length
theorem stL_mem {W : List (List Int)} {R : List (List Nat)} {i f : Nat} (hi : i < R.length) (hf : f < R.length) : decide (f ∈ (stL W R).getD i []) = blw W (R.getD i []) (R.getD f []) := by
  have : (stL W R).getD i [] = nxL W R (R.getD i []) := by
    unfold stL
    rw [List.getD_eq_getElem?_getD, List.getElem?_map, List.getElem?_eq_getElem hi, List.getD_eq_getElem?_getD, List.getElem?_eq_getElem hi]; rfl
  rw [this]
  unfold nxL
  cases hb : blw W (R.getD i []) (R.getD f [])
  · exact decide_eq_false fun h => by
      have := (List.mem_filter.1 h).2
      rw [hb] at this; cases this
  · exact decide_eq_true (List.mem_filter.2 ⟨List.mem_range.2 hf, hb⟩)
section
variable {a : AG} {m N p : Nat} {R : List (List Nat)}
abbrev Q3P (S : List (List Nat)) (N p : Nat) (xr xs : AV) (f bn : Nat) (H : Heap) (i : Nat) : SP := fun s h => h = H ∧ F42 N p xr xs (sat (rA S N f + rP S N f i)) f s ∧ s.get [true, false, true] = .slice bn 0 S.length S.length ∧ s.get [false, true, false, false] = G i
theorem c42_l3_ok (J : CallF) (k69 : KB 69 J) (k76 : K76 J) {xs : AV} {f br vr bn : Nat} {H : Heap} (o : OkG a H) (gS : H.get p = .cells 0 3 [G a.q, a.x, a.y]) (gr : H.get br = .cells 1 vr (wsL R)) (m5 : m ≤ 5) (hR : RowsOk a.q m R) (hn : R.length ≤ 243) (gb : H.get bn = .cells 1 R.length (gn (vE (stL a.W R) f N))) (hf : f < R.length) (he : ∀ i, i < R.length → ev (stL a.W R) f N i ≤ 1152921504606846976) :
    Tr tbl J c42_l3 (Q3P (stL a.W R) N p (.slice br 0 R.length vr) xs f bn H 0) (.exit 8) (fun s h => h = H ∧ F42 N p (.slice br 0 R.length vr) xs (sat (rA (stL a.W R) N (f + 1))) f s) := by
  have sn : (stL a.W R).length = R.length := by simp [stL]
  have mem := fun i hi => stL_mem (W := a.W) (R := R) (i := i) hi hf
  obtain ⟨S, hS⟩ : ∃ S, stL a.W R = S := ⟨_, rfl⟩
  rw [hS] at gb he sn mem ⊢
  have lw := wsL_len R
  have wf := wsL_at hf
  have wf' := getI wf
  have k1 : ((N + 1 : Nat) : Int) = (N : Int) + 1 := by omega
  refine Tr.rounds (e := .exit 8) (P := Q3P S N p (.slice br 0 R.length vr) xs f bn H) (M := R.length) (fun i hi => ?_) ?_ (by simp) 0 (by omega)
  · have wi := wsL_at hi
    have wi' := getI wi
    have k := k69 H a _ _ o (hR i hi).2 (hR f hf).2 (by rw [(hR i hi).1]; omega) (by rw [(hR i hi).1, (hR f hf).1])
    rw [← mem i hi] at k
    have gb' : H.get bn = .cells 1 R.length (gn (lN (ev S f N) R.length)) := by rw [gb]; unfold vE; rw [sn]
    have e1 := lN_at (ev S f N) hi
    have e1' := getI e1
    have l3 := lN_len (ev S f N) R.length
    have bi := he i hi
    have k6 := k76 H (sat (rA S N f + rP S N f i)) (ev S f N i) (by have := sat_le (rA S N f + rP S N f i); omega) (by omega)
    rw [sat_add] at k6
    have rt : rT S N f i = if f ∈ S.getD i [] then ev S f N i else 0 := rfl
    unfold Q3P F42
    rw [rP_succ, ← Nat.add_assoc, k1, sn]
    clear hR o mem gb he k1
    generalize stW (R.getD i []) = w1 at *
    generalize stW (R.getD f []) = w2 at *
    generalize gn (lN (ev S f N) R.length) = cs at *
    generalize wsL R = ws at *
    generalize rA S N f + rP S N f i = aa at *
    by_cases c : f ∈ S.getD i []
    · rw [if_pos c] at rt
      rw [decide_eq_true c] at k
      rw [rt]
      generalize sat (aa + ev S f N i) = z at *
      generalize sat aa = z0 at *
      generalize ev S f N i = e at *
      generalize R.length = n at *
      refine Tr.w fun s1 H1 hp2 _ kR => W.trim ?_
      obtain ⟨rfl, q⟩ := hp2
      refine W.assoc ?_
      refine W.seq (W.chunk ?_)
      simp (disch := first|omega|exact zE rfl|exact zO|exact zL rfl) [c42_o22, zG, q]
      refine W.seq (W.chunk ?_)
      simp (disch := first|omega|exact zE rfl|exact zO|exact zL rfl) [zG, q]
      refine W.seq (W.block ?_)
      refine W.seq (W.chunk ?_)
      simp (disch := first|omega|exact zE rfl|exact zO|exact zL rfl) [c42_o23, zG, q, gS, gr, wi, wi', wf, wf', lw, k, -evDraw_c, evDraw_0]
      refine W.chunk ?_
      simp (disch := first|omega|exact zE rfl|exact zO|exact zL rfl) [c42_o24, zG, q, gb', e1, e1', l3, k6]
      refine W.chunk ?_
      simp (disch := first|omega|exact zE rfl|exact zO|exact zL rfl) [c42_o25, zG, q]
      exact kR _ _ (by simp [T.get, q])
    · rw [if_neg c] at rt
      rw [decide_eq_false c] at k
      rw [rt, Nat.add_zero]
      generalize sat aa = z0 at *
      generalize R.length = n at *
      refine Tr.w fun s1 H1 hp2 _ kR => W.trim ?_
      obtain ⟨rfl, q⟩ := hp2
      refine W.assoc ?_
      refine W.seq (W.chunk ?_)
      simp (disch := first|omega|exact zE rfl|exact zO|exact zL rfl) [c42_o22, zG, q]
      refine W.seq (W.chunk ?_)
      simp (disch := first|omega|exact zE rfl|exact zO|exact zL rfl) [zG, q]
      refine W.seq (W.block ?_)
      refine W.seq (W.chunk ?_)
      simp (disch := first|omega|exact zE rfl|exact zO|exact zL rfl) [c42_o23, zG, q, gS, gr, wi, wi', wf, wf', lw, k, -evDraw_c, evDraw_0]
      refine W.chunk ?_
      simp (disch := first|omega|exact zE rfl|exact zO|exact zL rfl) [c42_o24, zG, q]
      refine W.chunk ?_
      simp (disch := first|omega|exact zE rfl|exact zO|exact zL rfl) [c42_o25, zG, q]
      exact kR _ _ (by simp [T.get, q])
  · unfold Q3P F42
    have e : rA S N f + rP S N f R.length = rA S N (f + 1) := by rw [rA_succ, sn]
    rw [e, k1, sn]
    generalize sat (rA S N (f + 1)) = z at *
    generalize R.length = n at *
    refine Tr.w fun s1 H1 hp2 _ kR => W.trim ?_
    obtain ⟨rfl, q⟩ := hp2
    refine W.assoc ?_
    refine W.seq (W.chunk ?_)
    simp (disch := first|omega|exact zE rfl|exact zO|exact zL rfl) [c42_o22, zG, q]
    refine W.seq (W.chunk ?_)
    simp (disch := first|omega|exact zE rfl|exact zO|exact zL rfl) [zG, q]
    exact kR _ _ (by simp [T.get, q])
abbrev Q4P (S : List (List Nat)) (N p : Nat) (xr xs : AV) (Hb : Heap) (f : Nat) : SP := fun s h => Kp (fun _ => False) Hb h ∧ F42 N p xr xs (sat (rA S N f)) f s
theorem c42_b4_ok (J : CallF) (k69 : KB 69 J) (k72 : K72 J) (k76 : K76 J) {xs : AV} {f br vr : Nat} {Hb : Heap} (o : OkG a Hb) (gS : Hb.get p = .cells 0 3 [G a.q, a.x, a.y]) (gr : Hb.get br = .cells 1 vr (wsL R)) (ln : LN Hb xs (stL a.W R)) (m5 : m ≤ 5) (hR : RowsOk a.q m R) (hn : R.length ≤ 243) (hf : f < R.length) (N40 : N + 1 ≤ 40) :
    (okE (stL a.W R) f (N + 1) = true → Tr tbl J (.trim [[true], [false, false], [true, false, false], [false, true, false], [true, true, false], [false, false, true]] c42_b4) (Q4P (stL a.W R) N p (.slice br 0 R.length vr) xs Hb f) .normal (Q4P (stL a.W R) N p (.slice br 0 R.length vr) xs Hb (f + 1))) ∧
    (okE (stL a.W R) f (N + 1) = false → Tr tbl J (.trim [[true], [false, false], [true, false, false], [false, true, false], [true, true, false], [false, false, true]] c42_b4) (Q4P (stL a.W R) N p (.slice br 0 R.length vr) xs Hb f) .ret (fun s h => s.get [true, true] = G 0 ∧ s.get [false, false, false] = .bool false)) := by
  have sn : (stL a.W R).length = R.length := by simp [stL]
  have os : OkS (stL a.W R) := stL_ok hn
  have k1 : ((N + 1 : Nat) : Int) = (N : Int) + 1 := by omega
  have r0 : rP (stL a.W R) N f 0 = 0 := by simp [rP]
  have pre : ∀ H1, Kp (fun _ => False) Hb H1 → mkSl H1 8 (G 0) R.length = some (.slice H1.size 0 R.length R.length, { eff := .grow [.cells 1 R.length (List.replicate R.length (G 0))] }) ∧ (List.replicate R.length (G 0)).length = R.length ∧ Eff.app (.put H1.size R.length f [G 1]) (H1.plus [.cells 1 R.length (List.replicate R.length (G 0))]) = some (H1.plus [.cells 1 R.length (gn (vE (stL a.W R) f 0))]) ∧ Kp (fun _ => False) Hb (H1.plus [.cells 1 R.length (gn (vE (stL a.W R) f 0))]) := fun H1 kH => by
    refine ⟨mkSl_ok _ _ _ _ _ rfl (by omega), by simp, ?_, kH.trans (Kp.plus _ _)⟩
    rw [put_plus1 _ _ _ _ _ _ _ _ rfl (by simpa using hf), ev_0 (S := stL a.W R) f hf]
    unfold vE
    rw [sn]
  have e4 : (∀ i, i < R.length → ev (stL a.W R) f 0 i ≤ 1152921504606846976) = True := eq_true fun i _ => by unfold ev; split <;> omega
  have l2 := c42_l2_ok (S := stL a.W R) (N := N) (p := p) (xr := .slice br 0 R.length vr) (out := sat (rA (stL a.W R) N f)) (f := f) (br := br) (vr := vr) (Hb := Hb) J k72 k76 (by rw [sn]) ln os N40
  unfold Q2P F42 at l2
  rw [k1, sn] at l2
  have z1 : ((0 + 1 : Nat) : Int) = 1 := rfl
  rw [z1] at l2
  unfold Q4P F42
  rw [k1]
  constructor
  · intro hc
    have l2 := l2.1 hc
    have l3 : ∀ H bn, Kp (fun _ => False) Hb H → H.get bn = .cells 1 R.length (gn (vE (stL a.W R) f N)) → Tr tbl J c42_l3 (Q3P (stL a.W R) N p (.slice br 0 R.length vr) xs f bn H 0) (.exit 8) (fun s h => h = H ∧ F42 N p (.slice br 0 R.length vr) xs (sat (rA (stL a.W R) N (f + 1))) f s) := fun H bn kk g => c42_l3_ok J k69 k76 (o.kp kk) (kk.at gS (by simp) id) (kk.at gr (by simp) id) m5 hR hn g hf (fun i hi => okE_le hc (by rw [sn]; exact hi))
    unfold Q3P F42 at l3
    rw [k1, r0, Nat.add_zero, sn] at l3
    refine Tr.w fun s1 H1 hp2 _ kR => W.trim ?_
    obtain ⟨kH, q⟩ := hp2
    obtain ⟨mk1, lrp, p1, kp1⟩ := pre H1 kH
    clear pre ln os gr gS o hR
    generalize hsv : stL a.W R = S at *
    generalize sat (rA S N (f + 1)) = z1 at *
    generalize sat (rA S N f) = z0 at *
    generalize gn (vE S f 0) = cv at *
    generalize List.replicate R.length (G 0) = rp at *
    generalize hnn : R.length = n at *
    refine W.assoc ?_
    refine W.seq (W.chunk ?_)
    simp (disch := first|omega|exact zE rfl|exact zO|exact zL rfl) [c42_o4, zG, q]
    refine W.seq (W.chunk ?_)
    simp (disch := first|omega|exact zE rfl|exact zO|exact zL rfl) [zG, q]
    refine W.seq (W.block ?_)
    refine W.seq (W.chunk ?_)
    simp (disch := first|omega|exact zE rfl|exact zO|exact zL rfl) [-act, c42_o5, zG, q, act_move, act_mkSl, act_len1, mk1]
    refine W.seq (W.chunk ?_)
    simp (disch := first|omega|exact zE rfl|exact zO|exact zL rfl) [c42_o6, zG, q, p1, lrp]
    refine W.assoc ?_
    refine W.seq (W.chunk ?_)
    simp (disch := first|omega|exact zE rfl|exact zO|exact zL rfl) [c42_o7, zG, q]
    refine W.seq (W.block ?_)
    refine W.use (l2) (by simp (disch := first|omega|exact zE rfl|exact zO|exact zL rfl) [zG, q, kp1, e4]) fun s1 H1 hp => ?_
    obtain ⟨bn, ⟨h1, h2⟩, q⟩ := hp
    try simp only [zW, if_true]
    refine W.seq (W.chunk ?_)
    simp (disch := first|omega|exact zE rfl|exact zO|exact zL rfl) [c42_o21, zG, q]
    refine W.block ?_
    refine W.use (l3 _ bn h1 h2) (by simp (disch := first|omega|exact zE rfl|exact zO|exact zL rfl) [zG, q]) fun s1 H1 hp => ?_
    obtain ⟨rfl, q⟩ := hp
    try simp only [zW, if_true]
    refine W.chunk ?_
    simp (disch := first|omega|exact zE rfl|exact zO|exact zL rfl) [c42_o26, zG, q]
    exact kR _ _ ⟨h1, by simp [T.get, q]⟩
  · intro hc
    have l2 := l2.2 hc
    refine Tr.w fun s1 H1 hp2 _ kR => W.trim ?_
    obtain ⟨kH, q⟩ := hp2
    obtain ⟨mk1, lrp, p1, kp1⟩ := pre H1 kH
    clear pre ln os gr gS o hR
    generalize hsv : stL a.W R = S at *
    generalize sat (rA S N f) = z0 at *
    generalize gn (vE S f 0) = cv at *
    generalize List.replicate R.length (G 0) = rp at *
    generalize hnn : R.length = n at *
    refine W.assoc ?_
    refine W.seq (W.chunk ?_)
    simp (disch := first|omega|exact zE rfl|exact zO|exact zL rfl) [c42_o4, zG, q]
    refine W.seq (W.chunk ?_)
    simp (disch := first|omega|exact zE rfl|exact zO|exact zL rfl) [zG, q]
    refine W.seq (W.block ?_)
    refine W.seq (W.chunk ?_)
    simp (disch := first|omega|exact zE rfl|exact zO|exact zL rfl) [-act, c42_o5, zG, q, act_move, act_mkSl, act_len1, mk1]
    refine W.seq (W.chunk ?_)
    simp (disch := first|omega|exact zE rfl|exact zO|exact zL rfl) [c42_o6, zG, q, p1, lrp]
    refine W.assoc ?_
    refine W.seq (W.chunk ?_)
    simp (disch := first|omega|exact zE rfl|exact zO|exact zL rfl) [c42_o7, zG, q]
    refine W.seq (W.block ?_)
    refine W.use (l2) (by simp (disch := first|omega|exact zE rfl|exact zO|exact zL rfl) [zG, q, kp1, e4]) fun s1 H1 hp => ?_
    try simp only [zW, if_true]
    exact kR _ _ hp
theorem c42_l4_ok (J : CallF) (k69 : KB 69 J) (k72 : K72 J) (k76 : K76 J) {xs xr : AV} {Hb : Heap} (o : OkG a Hb) (gS : Hb.get p = .cells 0 3 [G a.q, a.x, a.y]) (rr : RV Hb xr (wsL R)) (ln : LN Hb xs (stL a.W R)) (m5 : m ≤ 5) (hR : RowsOk a.q m R) (hn : R.length ≤ 243) (N40 : N + 1 ≤ 40) :
    (okA (stL a.W R) N = true → Tr tbl J c42_l4 (Q4P (stL a.W R) N p xr xs Hb 0) (.exit 0) (fun s h => s.get [true, true, false] = G (sat (rA (stL a.W R) N R.length)) ∧ True)) ∧
    (okA (stL a.W R) N = false → Tr tbl J c42_l4 (Q4P (stL a.W R) N p xr xs Hb 0) .ret (fun s h => s.get [true, true] = G 0 ∧ s.get [false, false, false] = .bool false)) := by
  have sn : (stL a.W R).length = R.length := by simp [stL]
  have sx := rr.sl
  rw [wsL_len] at sx
  have fin : Tr tbl J (.trim [[true], [false, false], [true, false, false], [false, true, false], [true, true, false], [false, false, true]] c42_b4) (Q4P (stL a.W R) N p xr xs Hb R.length) (.exit 0) (fun s h => s.get [true, true, false] = G (sat (rA (stL a.W R) N R.length)) ∧ True) := by
    unfold Q4P F42
    generalize sat (rA (stL a.W R) N R.length) = z at *
    generalize R.length = n at *
    refine Tr.w fun s1 H1 hp2 _ kR => W.trim ?_
    obtain ⟨kH, q⟩ := hp2
    rcases sx with ⟨rfl, rfl⟩ | ⟨b, v, rfl⟩
    all_goals
      refine W.assoc ?_
      refine W.seq (W.chunk ?_)
      simp (disch := first|omega|exact zE rfl|exact zO|exact zL rfl) [c42_o4, zG, q]
      refine W.seq (W.chunk ?_)
      simp (disch := first|omega|exact zE rfl|exact zO|exact zL rfl) [zG, q]
      exact kR _ _ (by simp [T.get, q])
  have step : ∀ f, f < R.length → ∃ br vr, xr = .slice br 0 R.length vr ∧ Hb.get br = .cells 1 vr (wsL R) := fun f hf => by
    rcases rr with ⟨_, e⟩ | ⟨b, v, e, g⟩
    · have : (wsL R).length = 0 := by rw [e]; rfl
      rw [wsL_len] at this; omega
    · rw [wsL_len] at e; exact ⟨b, v, e, g⟩
  have key : ∀ f, f < R.length → (okE (stL a.W R) f (N + 1) = true → Tr tbl J (.trim [[true], [false, false], [true, false, false], [false, true, false], [true, true, false], [false, false, true]] c42_b4) (Q4P (stL a.W R) N p xr xs Hb f) .normal (Q4P (stL a.W R) N p xr xs Hb (f + 1))) ∧
    (okE (stL a.W R) f (N + 1) = false → Tr tbl J (.trim [[true], [false, false], [true, false, false], [false, true, false], [true, true, false], [false, false, true]] c42_b4) (Q4P (stL a.W R) N p xr xs Hb f) .ret (fun s h => s.get [true, true] = G 0 ∧ s.get [false, false, false] = .bool false)) := fun f hf => by
    obtain ⟨br, vr, e, g⟩ := step f hf
    have := c42_b4_ok (N := N) J k69 k72 k76 o gS g ln m5 hR hn hf N40
    rw [← e] at this
    exact this
  unfold okA
  rw [sn]
  exact ⟨fun h => Tr.allT (P := Q4P (stL a.W R) N p xr xs Hb) (p := fun f => okE (stL a.W R) f (N + 1)) R.length (fun f hf hp => (key f hf).1 hp) fin (by simp) R.length 0 (by omega) h,
    fun h => Tr.allF (P := Q4P (stL a.W R) N p xr xs Hb) (p := fun f => okE (stL a.W R) f (N + 1)) R.length (fun f hf hp => (key f hf).1 hp) (fun f hf hp => (key f hf).2 hp) (by simp) R.length 0 (by omega) h⟩
end
def AR.oka (a : AR) (m : Int) (n : Nat) : Bool := okA (a.steps m) (n - 1)
def AR.rrV (a : AR) (m n : Int) : AV := if a.oka m n.toNat then .tup [G (sat (a.rn m n.toNat)), .bool (decide (sat (a.rn m n.toNat) ≤ 1152921504606846976))] else .tup [G 0, .bool false]
section
variable {a : AR} {m n : Int}
theorem c42_ok (J : CallF) (k30 : K30 J) (k31 : K31 J) (k69 : KB 69 J) (k72 : K72 J) (k76 : K76 J) (hJ : ∀ a h, J 42 a h = none) (h : Heap) (o : OkR a h) (g : a.gd m n 1 = true) : CallsTo tbl J 42 [a.v, G m, G n] h (a.rrV m n, [], false) := by
  unfold AR.gd at g
  simp only [Bool.and_eq_true, decide_eq_true_eq] at g
  obtain ⟨r, n1, n2⟩ := g
  obtain ⟨r1, r2⟩ := a.rm_iff r
  obtain ⟨os, s243, sr⟩ := AR.steps_ok r
  obtain ⟨Hs, hHs⟩ : ∃ H, (⟨h.get, h.size, [.cells 0 3 [G a.q, a.x, a.y]]⟩ : Heap) = H := ⟨_, rfl⟩
  have oH : OkR a Hs := by rw [← hHs]; exact o.lo _
  have gS : Hs.get h.size = .cells 0 3 [G a.q, a.x, a.y] := by rw [← hHs, get_mk_ge _ _ _ _ (Nat.le_refl _), Nat.sub_self]; rfl
  obtain ⟨xr, own1, e30, rr, xb⟩ := k30 Hs a.g m.toNat (oH.g r1) (by omega)
  have kp1 : Kp (fun _ => False) Hs (Hs.plus own1) := Kp.plus _ _
  obtain ⟨xs, own2, e31, l31⟩ := k31 (Hs.plus own1) a.g m.toNat ((oH.kp kp1).g r1) (by omega)
  have kp2 : Kp (fun _ => False) (Hs.plus own1) ((Hs.plus own1).plus own2) := Kp.plus _ _
  rw [a.gv r1, show ((m.toNat : Nat) : Int) = m by omega] at e30 e31
  obtain ⟨Z, hZ⟩ : ∃ Z, (Hs.plus own1).plus own2 = Z := ⟨_, rfl⟩
  rw [hZ] at l31 kp2
  have ln : LN Z xs (a.steps m) := l31.ln
  have rz := rr.kp kp2 (fun _ _ => id)
  have gS1 := kp1.at gS (by simp) id
  have gZ := kp2.at gS1 (by simp) id
  have oZ := ((oH.kp kp1).kp kp2).g r1
  obtain ⟨N, hN⟩ : ∃ N, n.toNat = N + 1 := ⟨n.toNat - 1, by omega⟩
  have nN : n = ((N + 1 : Nat) : Int) := by omega
  have l4 := c42_l4_ok (a := a.g) (m := m.toNat) (N := N) (p := h.size) (R := a.rows m) (xs := xs) (xr := xr) (Hb := Z) J k69 k72 k76 oZ (by rw [gZ]; show _ = AObj.cells 0 3 [G (a.g.q : Int), a.x, a.y]; rw [a.gq r1]) rz ln (by omega) rows_ok (by rw [← sr]; exact s243) (by omega)
  have es : stL a.g.W (a.rows m) = a.steps m := rfl
  rw [es] at l4
  have r0 : rA (a.steps m) N 0 = 0 := by simp [rA]
  have k40 : ((N + 1 : Nat) : Int) = (N : Int) + 1 := by omega
  have s0 : sat 0 = 0 := rfl
  unfold Q4P F42 at l4
  rw [r0, s0, k40] at l4
  have z0 : ((0 : Nat) : Int) = 0 := rfl
  rw [z0] at l4
  have e1 : Kp (fun _ => False) Z Z := Kp.refl _
  unfold AR.rrV AR.oka AR.rn
  rw [hN, Nat.add_sub_cancel, nN, k40]
  have hlt : h.size < Hs.size := get_lt gS (by simp)
  have o1 : own1 = [] ∨ ∃ o os, own1 = o :: os := by cases own1 <;> simp
  have o2 : own2 = [] ∨ ∃ o os, own2 = o :: os := by cases own2 <;> simp
  have hp0 : ∀ H : Heap, H.plus [] = H := fun H => by simp [Heap.plus]
  have z42 : ∀ z : Nat, z ≤ 1152921504606846977 → ((z : Int) ≤ 1152921504606846976) = (z ≤ 1152921504606846976) := fun z _ => by
    apply propext; omega
  clear ln l31 rz gZ oZ oH o rr os kp1 kp2 nN
  cases hc : okA (a.steps m) N
  · rw [if_neg (by simp)]
    have l4 := l4.2 hc
    refine Tr.fnv (cf := c42) (e := .ret) (s := T.set (T.set (T.set .leaf [] a.v) [false] (G m)) [true] (G ((N : Int) + 1))) (by decide) rfl (hJ _ _) rfl rfl rfl (by simp) ?_
    refine Tr.post (Q := (fun s h => s.get [true, true] = G 0 ∧ s.get [false, false, false] = .bool false)) (fun s h q => by simp [c42, q]) ?_
    rcases o1 with rfl | ⟨u1, v1, rfl⟩ <;> rcases o2 with rfl | ⟨u2, v2, rfl⟩
    all_goals
      try rw [hp0] at hZ
      try rw [hp0] at hZ
      try rw [hp0] at gS1
      try rw [hp0] at e31
      subst hZ
      refine Tr.w fun s1 H1 hp _ kR => ?_
      obtain ⟨rfl, rfl⟩ := hp
      have q : True := trivial
      refine W.seq (W.chunk ?_)
      simp (disch := first|omega|exact zE rfl|exact zO|exact zL rfl) [c42_o0, size_mk, get_mk_lt, get_mk_ge, frameOf, Eff.app, Heap.setOwn, q, hHs]
      refine W.seq (W.chunk ?_)
      simp (disch := first|omega|exact zE rfl|exact zO|exact zL rfl) [c42_o1, zG, q, gS, gS1, e30, e31, hlt, -evDraw_c, evDraw_0]
      refine W.seq (W.chunk ?_)
      simp (disch := first|omega|exact zE rfl|exact zO|exact zL rfl) [c42_o2, zG, q]
      refine W.assoc ?_
      refine W.seq (W.chunk ?_)
      simp (disch := first|omega|exact zE rfl|exact zO|exact zL rfl) [c42_o3, zG, q]
      refine W.seq (W.block ?_)
      refine W.use (l4) (by simp (disch := first|omega|exact zE rfl|exact zO|exact zL rfl) [size_mk, get_mk_lt, get_mk_ge, frameOf, Eff.app, Heap.setOwn, q, e1]) fun s1 H1 hp => ?_
      try simp only [zW, if_true]
      exact kR _ _ hp
  · rw [if_pos rfl]
    have l4 := l4.1 hc
    refine Tr.fnv (cf := c42) (e := .ret) (s := T.set (T.set (T.set .leaf [] a.v) [false] (G m)) [true] (G ((N : Int) + 1))) (by decide) rfl (hJ _ _) rfl rfl rfl (by simp) ?_
    rw [sr]
    have zl := sat_le (rA (a.steps m) N (a.rows m).length)
    generalize sat (rA (a.steps m) N (a.rows m).length) = z at *
    refine Tr.post (Q := (fun s h => s.get [true, true] = G z ∧ s.get [false, false, false] = .bool (decide (z ≤ 1152921504606846976)))) (fun s h q => by simp [c42, q]) ?_
    rcases o1 with rfl | ⟨u1, v1, rfl⟩ <;> rcases o2 with rfl | ⟨u2, v2, rfl⟩
    all_goals
      try rw [hp0] at hZ
      try rw [hp0] at hZ
      try rw [hp0] at gS1
      try rw [hp0] at e31
      subst hZ
      refine Tr.w fun s1 H1 hp _ kR => ?_
      obtain ⟨rfl, rfl⟩ := hp
      have q : True := trivial
      refine W.seq (W.chunk ?_)
      simp (disch := first|omega|exact zE rfl|exact zO|exact zL rfl) [c42_o0, size_mk, get_mk_lt, get_mk_ge, frameOf, Eff.app, Heap.setOwn, q, hHs]
      refine W.seq (W.chunk ?_)
      simp (disch := first|omega|exact zE rfl|exact zO|exact zL rfl) [c42_o1, zG, q, gS, gS1, e30, e31, hlt, -evDraw_c, evDraw_0]
      refine W.seq (W.chunk ?_)
      simp (disch := first|omega|exact zE rfl|exact zO|exact zL rfl) [c42_o2, zG, q]
      refine W.assoc ?_
      refine W.seq (W.chunk ?_)
      simp (disch := first|omega|exact zE rfl|exact zO|exact zL rfl) [c42_o3, zG, q]
      refine W.seq (W.block ?_)
      refine W.use (l4) (by simp (disch := first|omega|exact zE rfl|exact zO|exact zL rfl) [size_mk, get_mk_lt, get_mk_ge, frameOf, Eff.app, Heap.setOwn, q, e1]) fun s1 H1 hp => ?_
      obtain ⟨q, _⟩ := hp
      try simp only [zW, if_true]
      refine W.seq (W.chunk ?_)
      simp (disch := first|omega|exact zE rfl|exact zO|exact zL rfl) [c42_o27, zG, q, z42 z zl]
      refine W.ret ?_
      try simp only [zW, if_true]
      exact kR _ _ (by simp [T.get, q])
end
def Pre42 (b : ARmn) (args : List AV) (h : Heap) : Prop := (OkR b.a h ∧ b.a.gd b.m b.n 1 = true) ∧ args = [b.a.v, G b.m, G b.n]
def Post42 (b : ARmn) (h : Heap) (v : AV) (own : List AObj) : Prop := v = b.a.rrV b.m b.n ∧ own = []
noncomputable def T46 : CallF := addK tbl T45 42 Pre42 Post42
theorem t46 : Sound Go.Proofs.Try.prog T46 := Sound.addK follows ok t45 (by decide) _ _
abbrev K42 (J : CallF) : Prop := ∀ (h : Heap) (a : AR) (m n : Int), OkR a h → a.gd m n 1 = true → J 42 [a.v, G m, G n] h = some (a.rrV m n, [], false)
theorem k30_45 : K30 T45 := fun h a m o m5 => by
  obtain ⟨v, own, e, l⟩ := k30 h a m o m5
  exact ⟨v, own, by rw [show T45 30 [a.v, G m] h = T24 30 [a.v, G m] h from by simp (disch := decide) only [T25, T26, T27, T28, T29, T30, T31, T32, T33, T34, T35, T36, T37, T38, T39, T40, T41, T42, T43, T44, T45, addI_ne, addX_ne, addV_ne, addK_ne]]; exact e, l⟩
theorem k31_45 : K31 T45 := fun h a m o m5 => by
  obtain ⟨v, own, e, l⟩ := k31 h a m o m5
  exact ⟨v, own, by rw [show T45 31 [a.v, G m] h = T25 31 [a.v, G m] h from by simp (disch := decide) only [T26, T27, T28, T29, T30, T31, T32, T33, T34, T35, T36, T37, T38, T39, T40, T41, T42, T43, T44, T45, addI_ne, addX_ne, addV_ne, addK_ne]]; exact e, l⟩
theorem k69_45 : KB 69 T45 := fun h a s t o hs ht ls lt => by
  rw [show T45 69 [a.v, .str (stW s), .str (stW t)] h = T16 69 [a.v, .str (stW s), .str (stW t)] h from by simp (disch := decide) only [T17, T18, T19, T20, T21, T22, T23, T24, T25, T26, T27, T28, T29, T30, T31, T32, T33, T34, T35, T36, T37, T38, T39, T40, T41, T42, T43, T44, T45, addI_ne, addX_ne, addV_ne, addK_ne]]
  exact k69 h a s t o hs ht ls lt
theorem k72_45 : K72 T45 := fun h x L h1 h2 h3 => by
  rw [show T45 72 [x] h = T36 72 [x] h from by simp (disch := decide) only [T37, T38, T39, T40, T41, T42, T43, T44, T45, addI_ne, addX_ne, addV_ne, addK_ne]]; exact k72 h x L h1 h2 h3
theorem k76_45 : K76 T45 := fun h a b h1 h2 => by
  rw [show T45 76 [G a, G b] h = T35 76 [G a, G b] h from by simp (disch := decide) only [T36, T37, T38, T39, T40, T41, T42, T43, T44, T45, addI_ne, addX_ne, addV_ne, addK_ne]]; exact k76 h a b h1 h2
theorem k42 : K42 T46 := fun h a m n o g => by
  obtain ⟨v, own, e, rfl, rfl⟩ := addK_some (Pre := Pre42) (Post := Post42) (fun b args h hp => by
    obtain ⟨⟨o, g⟩, rfl⟩ := hp
    exact ⟨_, _, c42_ok T45 k30_45 k31_45 k69_45 k72_45 k76_45 (fun _ _ => by simp (disch := decide) only [T1, T2, T3, T4, T5, T6, T7, T8, T9, T10, T11, T12, T13, T14, T15, T16, T17, T18, T19, T20, T21, T22, T23, T24, T25, T26, T27, T28, T29, T30, T31, T32, T33, T34, T35, T36, T37, T38, T39, T40, T41, T42, T43, T44, T45, addI_ne, addX_ne, addV_ne, addK_ne]; rfl) h o g, rfl, rfl⟩) ⟨a, m, n⟩ _ h ⟨⟨o, g⟩, rfl⟩
  exact e
theorem rA_mono (S : List (List Nat)) (N : Nat) : ∀ d f, rA S N f ≤ rA S N (f + d)
  | 0, f => Nat.le_refl _
  | d + 1, f => by
    refine Nat.le_trans (rA_mono S N d f) ?_
    rw [← Nat.add_assoc, rA_succ]
    omega
theorem okR_eq (S : List (List Nat)) (N : Nat) : okR S N = (okA S N && decide (rA S N S.length ≤ 1152921504606846976)) := by
  rw [Bool.eq_iff_iff, Bool.and_eq_true, decide_eq_true_eq]
  unfold okR okA
  rw [af_iff, af_iff]
  constructor
  · intro h
    refine ⟨fun f h1 h2 => ?_, ?_⟩
    · have := h f h1 h2
      unfold gE at this
      simp only [Bool.and_eq_true] at this
      exact this.1
    · by_cases z : S.length = 0
      · rw [z]; simp [rA]
      · have := h (S.length - 1) (Nat.zero_le _) (by omega)
        unfold gE at this
        simp only [Bool.and_eq_true, decide_eq_true_eq] at this
        rw [show S.length - 1 + 1 = S.length by omega] at this
        exact this.2
  · rintro ⟨h1, h2⟩ f h3 h4
    unfold gE
    simp only [Bool.and_eq_true, decide_eq_true_eq]
    refine ⟨h1 f h3 h4, ?_⟩
    have := rA_mono S N (S.length - (f + 1)) (f + 1)
    rw [show f + 1 + (S.length - (f + 1)) = S.length by omega] at this
    omega
structure LawR (J : CallF) (H0 : Heap) (nq : Int) (x y : AV) (X Y : List (List Int)) (a : AR) (own1 : List AObj) (Ha Hb Hc : Heap) : Prop where
  fq : a.q = nq
  fB : a.B = cutM X
  fW : a.W = cutM Y
  ha : H0.plus [.cells 0 3 [G nq, x, y]] = Ha
  e : J 24 [.agg [G nq, x, y]] Ha = some (a.v, own1, false)
  hb : Ha.plus own1 = Hb
  hc : Hb.plus [.cells 0 3 [G a.q, a.x, a.y]] = Hc
  gS : Ha.get H0.size = .cells 0 3 [G nq, x, y]
  gc : Hc.get Hb.size = .cells 0 3 [G a.q, a.x, a.y]
  o : OkR a Hc
  tx : TG Ha Hc a.x a.B
  ty : TG Ha Hc a.y a.W
theorem lawR (J : CallF) (k24 : K24 J) {H0 : Heap} {nq : Int} {x y : AV} {X Y : List (List Int)} (mx : MR H0 x X) (my : MR H0 y Y) : ∃ a own1 Ha Hb Hc, LawR J H0 nq x y X Y a own1 Ha Hb Hc := by
  have k1 : Kp (fun _ => False) H0 (H0.plus [.cells 0 3 [G nq, x, y]]) := Kp.plus _ _
  obtain ⟨x', y', own, e, t1, t2⟩ := k24 (H0.plus [.cells 0 3 [G nq, x, y]]) ⟨nq, x, y, X, Y⟩ ⟨mx.kp k1, my.kp k1⟩
  have k2 : Kp (fun _ => False) ((H0.plus [.cells 0 3 [G nq, x, y]]).plus own) (((H0.plus [.cells 0 3 [G nq, x, y]]).plus own).plus [.cells 0 3 [G nq, x', y']]) := Kp.plus _ _
  have u1 := t1.kp k2
  have u2 := t2.kp k2
  exact ⟨⟨nq, x', y', cutM X, cutM Y⟩, own, _, _, _, rfl, rfl, rfl, rfl, e, rfl, rfl, plus_at0 _ _ _ _ rfl, plus_at0 _ _ _ _ rfl, ⟨u1.mr, u2.mr, cutM_small _, cutM_small _⟩, u1, u2⟩
theorem TB.lt' {H0 h h' : Heap} {x : AV} {N : List (List Int)} (t : TB H0 h x (N.map gs)) (k : Kp (fun _ => False) h h') : LT h' x N := t.lt.kp k
section
variable {nq m : Int} {X Y : List (List Int)}
end
structure KnC (J : CallF) : Prop where
  k24 : K24 J
  k21 : K21 J
  k41 : K41 J
  k28 : K28 J
  k33 : K33 J
  k42 : K42 J
  k23 : ∀ h, J 23 [] h = some (.bool true, [], false)
theorem gd_1 {a : AR} {m n : Int} (h : a.gd m n 1 = true) : a.gd m n 0 = true := by
  unfold AR.gd at *
  simp only [Bool.and_eq_true, decide_eq_true_eq] at *
  exact ⟨h.1, by omega, h.2.2⟩
section
variable {nq m nn : Int} {X Y : List (List Int)}
theorem c7_ok (J : CallF) (K : KnC J) (hJ : ∀ a h, J 7 a h = none) (h : Heap) {x y : AV} (mx : MR h x X) (my : MR h y Y) : CallsTo tbl J 7 [.agg [G nq, x, y], G m, G nn] h (.bool true, [], false) := by
  refine Tr.fnv (cf := c7) (e := .ret) (s := T.set (T.set (T.set .leaf [] (.agg [G nq, x, y])) [false] (G m)) [true] (G nn)) (by decide) rfl (hJ _ _) rfl rfl rfl (by simp) ?_
  refine Tr.post (Q := (fun s h => s.get [true, true] = .bool true)) (fun s h q => by simp [c7, q]) ?_
  obtain ⟨a, own1, Ha, Hb, Hc, eq, eB, eW, ha, e24, hb, hc, gS, gc, o, tx, ty⟩ := lawR (nq := nq) J K.k24 (mx.lo (h := h) []) (my.lo (h := h) [])
  rw [show (⟨h.get, h.size, []⟩ : Heap) = frameOf h from rfl] at ha gS
  generalize frameOf h = H0 at *
  have e21 := K.k21 Hc a m nn o
  have e41 := K.k41 Hc a m nn o
  have e28 := K.k28 Hc a m o
  have k33 := K.k33 Hc a m nn o
  have k42 := K.k42 Hc a m nn o
  have k23 := K.k23
  clear K tx ty eB eW mx my o
  cases g : a.gd m nn 0
  · have g1 : a.gd m nn 1 = false := by
      cases h1 : a.gd m nn 1
      · rfl
      · rw [gd_1 h1] at g; cases g
    have c21 : a.cntV m nn = .tup [G 0, G 2] := by unfold AR.cntV; rw [if_neg (by rw [g]; simp)]
    have c41 : a.rngV m nn = .tup [G 0, G 2] := by unfold AR.rngV; rw [if_neg (by rw [g1]; simp)]
    rw [c21] at e21
    rw [c41] at e41
    have gg : a.gd m nn 0 = (a.rm m && decide (0 ≤ nn ∧ nn ≤ 40)) := rfl
    rw [g] at gg
    clear c21 c41 g1 g k33 k42
    generalize a.rm m = b1 at *
    obtain ⟨aq, ax, ay, aB, aW⟩ := a
    simp only [AR.v] at *
    refine Tr.w fun s1 H1 hp _ kR => ?_
    obtain ⟨rfl, rfl⟩ := hp
    have q : True := trivial
    cases b1
    · refine W.seq (W.chunk ?_)
      simp (disch := first|omega|exact zE rfl|exact zO|exact zL rfl) [c7_o0, zG, q, ha]
      refine W.seq (W.chunk ?_)
      simp (disch := first|omega|exact zE rfl|exact zO|exact zL rfl) [c7_o1, zG, q, gS, e24, app_if, app_if', hb, hc]
      refine W.seq (W.chunk ?_)
      simp (disch := first|omega|exact zE rfl|exact zO|exact zL rfl) [c7_o2, zG, q, gc, e21]
      refine W.seq (W.chunk ?_)
      simp (disch := first|omega|exact zE rfl|exact zO|exact zL rfl) [c7_o3, zG, q, gc, e41]
      refine W.assoc ?_
      refine W.seq (W.chunk ?_)
      simp (disch := first|omega|exact zE rfl|exact zO|exact zL rfl) [c7_o4, zG, q, gc, e28]
      refine W.seq (W.chunk ?_)
      simp (disch := first|omega|exact zE rfl|exact zO|exact zL rfl) [c7_o5, zG, q, k23]
      exact kR _ _ (by simp [T.get])
    · have hn : ¬ (0 ≤ nn ∧ nn ≤ 40) := by simpa using gg.symm
      by_cases c : nn < 0
      · refine W.seq (W.chunk ?_)
        simp (disch := first|omega|exact zE rfl|exact zO|exact zL rfl) [c7_o0, zG, q, ha]
        refine W.seq (W.chunk ?_)
        simp (disch := first|omega|exact zE rfl|exact zO|exact zL rfl) [c7_o1, zG, q, gS, e24, app_if, app_if', hb, hc]
        refine W.seq (W.chunk ?_)
        simp (disch := first|omega|exact zE rfl|exact zO|exact zL rfl) [c7_o2, zG, q, gc, e21]
        refine W.seq (W.chunk ?_)
        simp (disch := first|omega|exact zE rfl|exact zO|exact zL rfl) [c7_o3, zG, q, gc, e41]
        refine W.assoc ?_
        refine W.seq (W.chunk ?_)
        simp (disch := first|omega|exact zE rfl|exact zO|exact zL rfl) [c7_o4, zG, q, gc, e28, c]
        refine W.seq (W.chunk ?_)
        simp (disch := first|omega|exact zE rfl|exact zO|exact zL rfl) [c7_o5, zG, q, k23]
        exact kR _ _ (by simp [T.get])
      · have c2 : (40 : Int) < nn := by omega
        refine W.seq (W.chunk ?_)
        simp (disch := first|omega|exact zE rfl|exact zO|exact zL rfl) [c7_o0, zG, q, ha]
        refine W.seq (W.chunk ?_)
        simp (disch := first|omega|exact zE rfl|exact zO|exact zL rfl) [c7_o1, zG, q, gS, e24, app_if, app_if', hb, hc]
        refine W.seq (W.chunk ?_)
        simp (disch := first|omega|exact zE rfl|exact zO|exact zL rfl) [c7_o2, zG, q, gc, e21]
        refine W.seq (W.chunk ?_)
        simp (disch := first|omega|exact zE rfl|exact zO|exact zL rfl) [c7_o3, zG, q, gc, e41]
        refine W.assoc ?_
        refine W.seq (W.chunk ?_)
        simp (disch := first|omega|exact zE rfl|exact zO|exact zL rfl) [c7_o4, zG, q, gc, e28, c, c2]
        refine W.seq (W.chunk ?_)
        simp (disch := first|omega|exact zE rfl|exact zO|exact zL rfl) [c7_o5, zG, q, k23]
        exact kR _ _ (by simp [T.get])
  · have e33 := k33 g
    have gg := g
    unfold AR.gd at gg
    simp only [Bool.and_eq_true, decide_eq_true_eq] at gg
    obtain ⟨rm, n0, n40⟩ := gg
    rw [rm] at e28
    have c21 : a.cntV m nn = if okC (a.steps m) nn.toNat then .tup [G (a.cn m nn.toNat), G 0] else .tup [G 0, G 5] := by unfold AR.cntV; rw [if_pos g]
    have c33 : a.rcV m nn = if okC (a.steps m) nn.toNat then .tup [G (a.cn m nn.toNat), .bool true] else .tup [G 0, .bool false] := rfl
    rw [c21] at e21
    rw [c33] at e33
    have b0 : ¬ nn < 0 := by omega
    have b40 : ¬ (40 : Int) < nn := by omega
    have two : ∃ w v : AV, ∃ k : Int, ∃ f : Bool, (w = .tup [G k, G 0] ∧ v = .tup [G k, .bool true]) ∨ (w = .tup [G 0, G 5] ∧ v = .tup [G 0, .bool false]) := ⟨_, _, 0, true, .inl ⟨rfl, rfl⟩⟩
    clear k33 c21 c33 two
    by_cases hz : nn = 0
    · subst hz
      have g1 : a.gd m 0 1 = false := by unfold AR.gd; simp
      have c41 : a.rngV m 0 = .tup [G 0, G 2] := by unfold AR.rngV; rw [if_neg (by rw [g1]; simp)]
      rw [c41] at e41
      clear k42 c41 g1 g rm
      generalize a.cn m (0 : Int).toNat = cnv at *
      cases hk : okC (a.steps m) (0 : Int).toNat
      · rw [hk, if_neg (by simp)] at e21 e33
        clear hk
        obtain ⟨aq, ax, ay, aB, aW⟩ := a
        simp only [AR.v] at *
        refine Tr.w fun s1 H1 hp _ kR => ?_
        obtain ⟨rfl, rfl⟩ := hp
        have q : True := trivial
        refine W.seq (W.chunk ?_)
        simp (disch := first|omega|exact zE rfl|exact zO|exact zL rfl) [c7_o0, zG, q, ha]
        refine W.seq (W.chunk ?_)
        simp (disch := first|omega|exact zE rfl|exact zO|exact zL rfl) [c7_o1, zG, q, gS, e24, app_if, app_if', hb, hc]
        refine W.seq (W.chunk ?_)
        simp (disch := first|omega|exact zE rfl|exact zO|exact zL rfl) [c7_o2, zG, q, gc, e21]
        refine W.seq (W.chunk ?_)
        simp (disch := first|omega|exact zE rfl|exact zO|exact zL rfl) [c7_o3, zG, q, gc, e41]
        refine W.assoc ?_
        refine W.seq (W.chunk ?_)
        simp (disch := first|omega|exact zE rfl|exact zO|exact zL rfl) [c7_o4, zG, q, gc, e28]
        refine W.seq (W.chunk ?_)
        simp (disch := first|omega|exact zE rfl|exact zO|exact zL rfl) [c7_o5, zG, q]
        refine W.seq (W.chunk ?_)
        simp (disch := first|omega|exact zE rfl|exact zO|exact zL rfl) [c7_o6, zG, q, gc, e33]
        refine W.assoc ?_
        refine W.seq (W.chunk ?_)
        simp (disch := first|omega|exact zE rfl|exact zO|exact zL rfl) [c7_o7, zG, q]
        refine W.seq (W.chunk ?_)
        simp (disch := first|omega|exact zE rfl|exact zO|exact zL rfl) [c7_o8, zG, q]
        refine W.assoc ?_
        refine W.seq (W.chunk ?_)
        simp (disch := first|omega|exact zE rfl|exact zO|exact zL rfl) [c7_o9, zG, q]
        refine W.seq (W.chunk ?_)
        simp (disch := first|omega|exact zE rfl|exact zO|exact zL rfl) [c7_o10, zG, q, k23]
        exact kR _ _ (by simp [T.get])
      · rw [hk, if_pos rfl] at e21 e33
        clear hk
        obtain ⟨aq, ax, ay, aB, aW⟩ := a
        simp only [AR.v] at *
        refine Tr.w fun s1 H1 hp _ kR => ?_
        obtain ⟨rfl, rfl⟩ := hp
        have q : True := trivial
        refine W.seq (W.chunk ?_)
        simp (disch := first|omega|exact zE rfl|exact zO|exact zL rfl) [c7_o0, zG, q, ha]
        refine W.seq (W.chunk ?_)
        simp (disch := first|omega|exact zE rfl|exact zO|exact zL rfl) [c7_o1, zG, q, gS, e24, app_if, app_if', hb, hc]
        refine W.seq (W.chunk ?_)
        simp (disch := first|omega|exact zE rfl|exact zO|exact zL rfl) [c7_o2, zG, q, gc, e21]
        refine W.seq (W.chunk ?_)
        simp (disch := first|omega|exact zE rfl|exact zO|exact zL rfl) [c7_o3, zG, q, gc, e41]
        refine W.assoc ?_
        refine W.seq (W.chunk ?_)
        simp (disch := first|omega|exact zE rfl|exact zO|exact zL rfl) [c7_o4, zG, q, gc, e28]
        refine W.seq (W.chunk ?_)
        simp (disch := first|omega|exact zE rfl|exact zO|exact zL rfl) [c7_o5, zG, q]
        refine W.seq (W.chunk ?_)
        simp (disch := first|omega|exact zE rfl|exact zO|exact zL rfl) [c7_o6, zG, q, gc, e33]
        refine W.assoc ?_
        refine W.seq (W.chunk ?_)
        simp (disch := first|omega|exact zE rfl|exact zO|exact zL rfl) [c7_o7, zG, q]
        refine W.seq (W.chunk ?_)
        simp (disch := first|omega|exact zE rfl|exact zO|exact zL rfl) [c7_o8, zG, q]
        refine W.assoc ?_
        refine W.seq (W.chunk ?_)
        simp (disch := first|omega|exact zE rfl|exact zO|exact zL rfl) [c7_o9, zG, q]
        refine W.seq (W.chunk ?_)
        simp (disch := first|omega|exact zE rfl|exact zO|exact zL rfl) [c7_o10, zG, q, k23]
        exact kR _ _ (by simp [T.get])
    · have g1 : a.gd m nn 1 = true := by
        unfold AR.gd
        rw [rm]
        simp only [Bool.true_and, decide_eq_true_eq]
        omega
      have e42 := k42 g1
      have c41 : a.rngV m nn = if a.okr m nn.toNat then .tup [G (a.rn m nn.toNat), G 0] else .tup [G 0, G 5] := by unfold AR.rngV; rw [if_pos g1]
      have c42 : a.rrV m nn = if a.oka m nn.toNat then .tup [G (sat (a.rn m nn.toNat)), .bool (decide (sat (a.rn m nn.toNat) ≤ 1152921504606846976))] else .tup [G 0, .bool false] := rfl
      have ko : a.okr m nn.toNat = (a.oka m nn.toNat && decide (a.rn m nn.toNat ≤ 1152921504606846976)) := okR_eq _ _
      rw [c41, ko] at e41
      rw [c42] at e42
      have sle := sat_le (a.rn m nn.toNat)
      have sgt := sat_gt (n := a.rn m nn.toNat)
      have sof := fun h => sat_of (n := a.rn m nn.toNat) h
      clear k42 c41 c42 ko g1 g rm
      generalize a.cn m nn.toNat = cnv at *
      generalize okC (a.steps m) nn.toNat = bk at *
      generalize sat (a.rn m nn.toNat) = z at *
      generalize a.rn m nn.toNat = rv at *
      generalize a.oka m nn.toNat = ba at *
      obtain ⟨aq, ax, ay, aB, aW⟩ := a
      simp only [AR.v] at *
      have two : (J 41 [.agg [G aq, ax, ay], G m, G nn] Hc = some (.tup [G rv, G 0], [], false) ∧ J 42 [.agg [G aq, ax, ay], G m, G nn] Hc = some (.tup [G rv, .bool true], [], false)) ∨ (∃ w : Nat, J 41 [.agg [G aq, ax, ay], G m, G nn] Hc = some (.tup [G 0, G 5], [], false) ∧ J 42 [.agg [G aq, ax, ay], G m, G nn] Hc = some (.tup [G w, .bool false], [], false)) := by
        cases ba
        · exact .inr ⟨0, e41, e42⟩
        · by_cases c : rv ≤ 1152921504606846976
          · have e := sof c
            subst e
            rw [decide_eq_true c] at e41 e42
            exact .inl ⟨e41, e42⟩
          · have c2 : ¬ z ≤ 1152921504606846976 := fun h => by have := sgt.2 (by omega); omega
            rw [decide_eq_false c] at e41
            rw [decide_eq_false c2] at e42
            exact .inr ⟨z, e41, e42⟩
      clear e41 e42 sle sgt sof
      rcases two with ⟨e41, e42⟩ | ⟨w, e41, e42⟩
      · cases bk
        · rw [if_neg (by simp)] at e21 e33
          refine Tr.w fun s1 H1 hp _ kR => ?_
          obtain ⟨rfl, rfl⟩ := hp
          have q : True := trivial
          refine W.seq (W.chunk ?_)
          simp (disch := first|omega|exact zE rfl|exact zO|exact zL rfl) [c7_o0, zG, q, ha]
          refine W.seq (W.chunk ?_)
          simp (disch := first|omega|exact zE rfl|exact zO|exact zL rfl) [c7_o1, zG, q, gS, e24, app_if, app_if', hb, hc]
          refine W.seq (W.chunk ?_)
          simp (disch := first|omega|exact zE rfl|exact zO|exact zL rfl) [c7_o2, zG, q, gc, e21]
          refine W.seq (W.chunk ?_)
          simp (disch := first|omega|exact zE rfl|exact zO|exact zL rfl) [c7_o3, zG, q, gc, e41]
          refine W.assoc ?_
          refine W.seq (W.chunk ?_)
          simp (disch := first|omega|exact zE rfl|exact zO|exact zL rfl) [c7_o4, zG, q, gc, e28, b0, b40]
          refine W.seq (W.chunk ?_)
          simp (disch := first|omega|exact zE rfl|exact zO|exact zL rfl) [c7_o5, zG, q]
          refine W.seq (W.chunk ?_)
          simp (disch := first|omega|exact zE rfl|exact zO|exact zL rfl) [c7_o6, zG, q, gc, e33]
          refine W.assoc ?_
          refine W.seq (W.chunk ?_)
          simp (disch := first|omega|exact zE rfl|exact zO|exact zL rfl) [c7_o7, zG, q]
          refine W.seq (W.chunk ?_)
          simp (disch := first|omega|exact zE rfl|exact zO|exact zL rfl) [c7_o8, zG, q]
          refine W.assoc ?_
          refine W.seq (W.chunk ?_)
          simp (disch := first|omega|exact zE rfl|exact zO|exact zL rfl) [c7_o9, zG, q, hz]
          refine W.seq (W.chunk ?_)
          simp (disch := first|omega|exact zE rfl|exact zO|exact zL rfl) [c7_o10, zG, q]
          refine W.seq (W.chunk ?_)
          simp (disch := first|omega|exact zE rfl|exact zO|exact zL rfl) [c7_o11, zG, q, gc, e42]
          refine W.assoc ?_
          refine W.seq (W.chunk ?_)
          simp (disch := first|omega|exact zE rfl|exact zO|exact zL rfl) [c7_o12, zG, q]
          refine W.seq (W.chunk ?_)
          simp (disch := first|omega|exact zE rfl|exact zO|exact zL rfl) [c7_o13, zG, q]
          refine W.seq (W.chunk ?_)
          simp (disch := first|omega|exact zE rfl|exact zO|exact zL rfl) [c7_o14, zG, q, k23]
          refine W.ret ?_
          try simp only [zW, if_true]
          exact kR _ _ (by simp [T.get])
        · rw [if_pos rfl] at e21 e33
          refine Tr.w fun s1 H1 hp _ kR => ?_
          obtain ⟨rfl, rfl⟩ := hp
          have q : True := trivial
          refine W.seq (W.chunk ?_)
          simp (disch := first|omega|exact zE rfl|exact zO|exact zL rfl) [c7_o0, zG, q, ha]
          refine W.seq (W.chunk ?_)
          simp (disch := first|omega|exact zE rfl|exact zO|exact zL rfl) [c7_o1, zG, q, gS, e24, app_if, app_if', hb, hc]
          refine W.seq (W.chunk ?_)
          simp (disch := first|omega|exact zE rfl|exact zO|exact zL rfl) [c7_o2, zG, q, gc, e21]
          refine W.seq (W.chunk ?_)
          simp (disch := first|omega|exact zE rfl|exact zO|exact zL rfl) [c7_o3, zG, q, gc, e41]
          refine W.assoc ?_
          refine W.seq (W.chunk ?_)
          simp (disch := first|omega|exact zE rfl|exact zO|exact zL rfl) [c7_o4, zG, q, gc, e28, b0, b40]
          refine W.seq (W.chunk ?_)
          simp (disch := first|omega|exact zE rfl|exact zO|exact zL rfl) [c7_o5, zG, q]
          refine W.seq (W.chunk ?_)
          simp (disch := first|omega|exact zE rfl|exact zO|exact zL rfl) [c7_o6, zG, q, gc, e33]
          refine W.assoc ?_
          refine W.seq (W.chunk ?_)
          simp (disch := first|omega|exact zE rfl|exact zO|exact zL rfl) [c7_o7, zG, q]
          refine W.seq (W.chunk ?_)
          simp (disch := first|omega|exact zE rfl|exact zO|exact zL rfl) [c7_o8, zG, q]
          refine W.assoc ?_
          refine W.seq (W.chunk ?_)
          simp (disch := first|omega|exact zE rfl|exact zO|exact zL rfl) [c7_o9, zG, q, hz]
          refine W.seq (W.chunk ?_)
          simp (disch := first|omega|exact zE rfl|exact zO|exact zL rfl) [c7_o10, zG, q]
          refine W.seq (W.chunk ?_)
          simp (disch := first|omega|exact zE rfl|exact zO|exact zL rfl) [c7_o11, zG, q, gc, e42]
          refine W.assoc ?_
          refine W.seq (W.chunk ?_)
          simp (disch := first|omega|exact zE rfl|exact zO|exact zL rfl) [c7_o12, zG, q]
          refine W.seq (W.chunk ?_)
          simp (disch := first|omega|exact zE rfl|exact zO|exact zL rfl) [c7_o13, zG, q]
          refine W.seq (W.chunk ?_)
          simp (disch := first|omega|exact zE rfl|exact zO|exact zL rfl) [c7_o14, zG, q, k23]
          refine W.ret ?_
          try simp only [zW, if_true]
          exact kR _ _ (by simp [T.get])
      · cases bk
        · rw [if_neg (by simp)] at e21 e33
          refine Tr.w fun s1 H1 hp _ kR => ?_
          obtain ⟨rfl, rfl⟩ := hp
          have q : True := trivial
          refine W.seq (W.chunk ?_)
          simp (disch := first|omega|exact zE rfl|exact zO|exact zL rfl) [c7_o0, zG, q, ha]
          refine W.seq (W.chunk ?_)
          simp (disch := first|omega|exact zE rfl|exact zO|exact zL rfl) [c7_o1, zG, q, gS, e24, app_if, app_if', hb, hc]
          refine W.seq (W.chunk ?_)
          simp (disch := first|omega|exact zE rfl|exact zO|exact zL rfl) [c7_o2, zG, q, gc, e21]
          refine W.seq (W.chunk ?_)
          simp (disch := first|omega|exact zE rfl|exact zO|exact zL rfl) [c7_o3, zG, q, gc, e41]
          refine W.assoc ?_
          refine W.seq (W.chunk ?_)
          simp (disch := first|omega|exact zE rfl|exact zO|exact zL rfl) [c7_o4, zG, q, gc, e28, b0, b40]
          refine W.seq (W.chunk ?_)
          simp (disch := first|omega|exact zE rfl|exact zO|exact zL rfl) [c7_o5, zG, q]
          refine W.seq (W.chunk ?_)
          simp (disch := first|omega|exact zE rfl|exact zO|exact zL rfl) [c7_o6, zG, q, gc, e33]
          refine W.assoc ?_
          refine W.seq (W.chunk ?_)
          simp (disch := first|omega|exact zE rfl|exact zO|exact zL rfl) [c7_o7, zG, q]
          refine W.seq (W.chunk ?_)
          simp (disch := first|omega|exact zE rfl|exact zO|exact zL rfl) [c7_o8, zG, q]
          refine W.assoc ?_
          refine W.seq (W.chunk ?_)
          simp (disch := first|omega|exact zE rfl|exact zO|exact zL rfl) [c7_o9, zG, q, hz]
          refine W.seq (W.chunk ?_)
          simp (disch := first|omega|exact zE rfl|exact zO|exact zL rfl) [c7_o10, zG, q]
          refine W.seq (W.chunk ?_)
          simp (disch := first|omega|exact zE rfl|exact zO|exact zL rfl) [c7_o11, zG, q, gc, e42]
          refine W.assoc ?_
          refine W.seq (W.chunk ?_)
          simp (disch := first|omega|exact zE rfl|exact zO|exact zL rfl) [c7_o12, zG, q]
          refine W.seq (W.chunk ?_)
          simp (disch := first|omega|exact zE rfl|exact zO|exact zL rfl) [c7_o13, zG, q, k23]
          exact kR _ _ (by simp [T.get])
        · rw [if_pos rfl] at e21 e33
          refine Tr.w fun s1 H1 hp _ kR => ?_
          obtain ⟨rfl, rfl⟩ := hp
          have q : True := trivial
          refine W.seq (W.chunk ?_)
          simp (disch := first|omega|exact zE rfl|exact zO|exact zL rfl) [c7_o0, zG, q, ha]
          refine W.seq (W.chunk ?_)
          simp (disch := first|omega|exact zE rfl|exact zO|exact zL rfl) [c7_o1, zG, q, gS, e24, app_if, app_if', hb, hc]
          refine W.seq (W.chunk ?_)
          simp (disch := first|omega|exact zE rfl|exact zO|exact zL rfl) [c7_o2, zG, q, gc, e21]
          refine W.seq (W.chunk ?_)
          simp (disch := first|omega|exact zE rfl|exact zO|exact zL rfl) [c7_o3, zG, q, gc, e41]
          refine W.assoc ?_
          refine W.seq (W.chunk ?_)
          simp (disch := first|omega|exact zE rfl|exact zO|exact zL rfl) [c7_o4, zG, q, gc, e28, b0, b40]
          refine W.seq (W.chunk ?_)
          simp (disch := first|omega|exact zE rfl|exact zO|exact zL rfl) [c7_o5, zG, q]
          refine W.seq (W.chunk ?_)
          simp (disch := first|omega|exact zE rfl|exact zO|exact zL rfl) [c7_o6, zG, q, gc, e33]
          refine W.assoc ?_
          refine W.seq (W.chunk ?_)
          simp (disch := first|omega|exact zE rfl|exact zO|exact zL rfl) [c7_o7, zG, q]
          refine W.seq (W.chunk ?_)
          simp (disch := first|omega|exact zE rfl|exact zO|exact zL rfl) [c7_o8, zG, q]
          refine W.assoc ?_
          refine W.seq (W.chunk ?_)
          simp (disch := first|omega|exact zE rfl|exact zO|exact zL rfl) [c7_o9, zG, q, hz]
          refine W.seq (W.chunk ?_)
          simp (disch := first|omega|exact zE rfl|exact zO|exact zL rfl) [c7_o10, zG, q]
          refine W.seq (W.chunk ?_)
          simp (disch := first|omega|exact zE rfl|exact zO|exact zL rfl) [c7_o11, zG, q, gc, e42]
          refine W.assoc ?_
          refine W.seq (W.chunk ?_)
          simp (disch := first|omega|exact zE rfl|exact zO|exact zL rfl) [c7_o12, zG, q]
          refine W.seq (W.chunk ?_)
          simp (disch := first|omega|exact zE rfl|exact zO|exact zL rfl) [c7_o13, zG, q, k23]
          exact kR _ _ (by simp [T.get])
end
theorem kC46 : KnC T46 where
  k24 := fun h a o => by
    obtain ⟨x, y, own, e, l⟩ := k24 h a o
    exact ⟨x, y, own, by rw [show T46 24 [.agg [G a.q, a.x, a.y]] h = T31 24 [.agg [G a.q, a.x, a.y]] h from by simp (disch := decide) only [T32, T33, T34, T35, T36, T37, T38, T39, T40, T41, T42, T43, T44, T45, T46, addI_ne, addX_ne, addV_ne, addK_ne]]; exact e, l⟩
  k21 := fun h a m n o => by
    rw [show T46 21 [a.v, G m, G n] h = T39 21 [a.v, G m, G n] h from by simp (disch := decide) only [T40, T41, T42, T43, T44, T45, T46, addI_ne, addX_ne, addV_ne, addK_ne]]; exact k21 h a m n o
  k41 := fun h a m n o => by
    rw [show T46 41 [a.v, G m, G n] h = T45 41 [a.v, G m, G n] h from by simp (disch := decide) only [T46, addI_ne, addX_ne, addV_ne, addK_ne]]; exact k41 h a m n o
  k28 := fun h a m o => by
    rw [show T46 28 [a.v, G m] h = T32 28 [a.v, G m] h from by simp (disch := decide) only [T33, T34, T35, T36, T37, T38, T39, T40, T41, T42, T43, T44, T45, T46, addI_ne, addX_ne, addV_ne, addK_ne]]; exact k28 h a m o
  k33 := fun h a m n o g => by
    rw [show T46 33 [a.v, G m, G n] h = T41 33 [a.v, G m, G n] h from by simp (disch := decide) only [T42, T43, T44, T45, T46, addI_ne, addX_ne, addV_ne, addK_ne]]; exact k33 h a m n o g
  k42 := fun h a m n o g => k42 h a m n o g
  k23 := fun h => by
    rw [show T46 23 [] h = T2 23 [] h from by simp (disch := decide) only [T3, T4, T5, T6, T7, T8, T9, T10, T11, T12, T13, T14, T15, T16, T17, T18, T19, T20, T21, T22, T23, T24, T25, T26, T27, T28, T29, T30, T31, T32, T33, T34, T35, T36, T37, T38, T39, T40, T41, T42, T43, T44, T45, T46, addI_ne, addX_ne, addV_ne, addK_ne]]; exact k23 h
theorem stripCounts_ok (h : Heap) (m n : Int) {nq : Int} {x y : AV} {B W : List (List Int)} (mx : MR h x B) (my : MR h y W) : CallsTo tbl T46 7 [.agg [G nq, x, y], G m, G n] h (.bool true, [], false) := c7_ok T46 kC46 (fun _ _ => by simp (disch := decide) only [T1, T2, T3, T4, T5, T6, T7, T8, T9, T10, T11, T12, T13, T14, T15, T16, T17, T18, T19, T20, T21, T22, T23, T24, T25, T26, T27, T28, T29, T30, T31, T32, T33, T34, T35, T36, T37, T38, T39, T40, T41, T42, T43, T44, T45, T46, addI_ne, addX_ne, addV_ne, addK_ne]; rfl) h mx my
end Go.Proofs.Ytljgfdamdcikgaa.Ev
set_option linter.unusedVariables false
set_option linter.unusedSimpArgs false
namespace Go.AEv
open Go.ChangeShapes Go.WideShapes Go.Proofs.Ytljgfdamdcikgaa.Ev
theorem MR.ext {h h' : Heap} (e : Ext h h') {y : AV} {M : List (List Int)} (m : MR h y M) : MR h' y M := by
  rcases m with m | ⟨b, v, cs, rfl, g, hl, hr⟩
  · exact .inl m
  · refine .inr ⟨b, v, cs, rfl, e _ _ g (by simp), hl, fun i r q => ?_⟩
    obtain ⟨l, h1, h2⟩ := hr i r q
    exact ⟨l, h1, LR.ext e h2⟩
theorem rows_lo {CK : CKT} {w : World} {H : Type} {enc : TypeId × Value → H} {P : Program} {e i : TypeId} (he : P.underlying e = some (.slice i)) (hi : P.underlying i = some (.int .i64)) (hc : P.cellsOf i = 1) :
    ∀ (vs : List Value) {φ : Nat → Emb} {h : Heap} (ho : h.own = []) (hr : HR CK w [] φ h w), (∀ u ∈ vs, ∃ fuel z, DataW.trod enc P w 0 (fun _ => true) true fuel e [u] = some z) →
    ∃ φ' h', ∃ (rs : List AV) (ls : List (List Int)), h'.own = [] ∧ HR CK w [] φ' h' w ∧ Stp φ h φ' h' ∧ Ext h h' ∧ rs.length = vs.length ∧ ls.length = vs.length ∧ ∀ (j : Nat) u r, vs[j]? = some u → rs[j]? = some r → VR φ' h' r u ∧ Value.oneCell' u = true ∧ ∃ l, ls[j]? = some l ∧ LR h' r l
  | [], φ, h, ho, hr, _ => ⟨φ, h, [], [], ho, hr, Stp.refl φ h, Ext.refl h, rfl, rfl, fun j u r q => by simp at q⟩
  | u :: us, φ, h, ho, hr, ht => by
    obtain ⟨fuel, z, hf⟩ := ht u (by simp)
    obtain ⟨φ1, h1, x, l, o1, r1, s1, e1, v1, p1, c1⟩ := ints_lo0 ho hr he hi hc hf
    obtain ⟨φ2, h2, rs, ls, o2, r2, s2, e2, l1, l2, q⟩ := rows_lo he hi hc us o1 r1 (fun u' hu => ht u' (by simp [hu]))
    refine ⟨φ2, h2, x :: rs, l :: ls, o2, r2, s1.trans s2, e1.trans e2, by simp [l1], by simp [l2], fun j u' r hu hr' => ?_⟩
    cases j with
    | zero =>
      simp only [List.getElem?_cons_zero, Option.some.injEq] at hu hr'
      subst hu hr'
      exact ⟨VR.step s2 _ _ v1, c1, l, rfl, p1.ext e2⟩
    | succ j =>
      simp only [List.getElem?_cons_succ] at hu hr' ⊢
      exact q j u' r hu hr'
theorem mat_lo0 {CK : CKT} {φ : Nat → Emb} {h : Heap} {w : World} (ho : h.own = []) (hr : HR CK w [] φ h w) {H : Type} {enc : TypeId × Value → H} {P : Program} {t e i : TypeId} {v : Value} {fuel : Nat} {z : DataW H × List MemPlace}
    (ht : P.underlying t = some (.slice e)) (he : P.underlying e = some (.slice i)) (hi : P.underlying i = some (.int .i64)) (hce : P.cellsOf e = 1) (hci : P.cellsOf i = 1) (hf : DataW.trod enc P w 0 (fun _ => true) true fuel t [v] = some z) :
    ∃ φ' h' x M, h'.own = [] ∧ HR CK w [] φ' h' w ∧ Stp φ h φ' h' ∧ Ext h h' ∧ VR φ' h' x v ∧ MR h' x M ∧ Value.oneCell' v = true := by
  rcases DataW.trod_slice ht hf with ⟨hcs, _⟩ | ⟨a, len, cap, elems, rest, n, _, hcs, _, _, hl, hm, hlen, hel, hsp, _⟩
  · have hcs' : v = .slice none 0 0 := (List.cons.inj hcs).1
    rw [hcs']
    exact ⟨φ, h, .nils, [], ho, hr, Stp.refl φ h, Ext.refl h, by simp [VR], .inl ⟨.inl rfl, rfl⟩, rfl⟩
  · have hcs' : v = .slice (some a) len cap := (List.cons.inj hcs).1
    rw [hcs']
    by_cases h0 : len = 0
    · subst h0
      exact ⟨φ, h, .slice0, [], ho, hr, Stp.refl φ h, Ext.refl h, by simp [VR], .inl ⟨.inr rfl, rfl⟩, rfl⟩
    · obtain ⟨hrl, hre⟩ := hsp rfl
      have each : ∀ j, j < cap → ∃ u, w.cell? (a.add j) = some u ∧ ∃ z, DataW.trod enc P w 0 (fun _ => true) true n e [u] = some z := fun j hj => by
        have hb' : ∃ y, (w.cells? 0 (a.add (j * P.cellsOf e)) (P.cellsOf e)).bind (DataW.trod enc P w 0 (fun _ => true) true n e) = some y := by
          by_cases hjl : j < len
          · rw [hel j hjl, List.getElem?_eq_getElem (by omega)]; exact ⟨_, rfl⟩
          · have := hre (j - len) (by omega)
            rw [show len + (j - len) = j by omega] at this
            rw [this, List.getElem?_eq_getElem (by omega)]; exact ⟨_, rfl⟩
        obtain ⟨y, hy⟩ := hb'
        rw [hce, Nat.mul_one, Option.bind_eq_some_iff] at hy
        obtain ⟨cs', h1, h2⟩ := hy
        have hl1 := (World.cells?_some h1).2.1
        obtain ⟨u, rfl⟩ : ∃ u, cs' = [u] := by
          cases cs' with
          | nil => simp at hl1
          | cons u r => cases r with
            | nil => exact ⟨u, rfl⟩
            | cons u' r => simp at hl1
        exact ⟨u, cell_of_cells?_one h1, y, h2⟩
      obtain ⟨f, hfe⟩ : ∃ f : Nat → Value, ∀ j, j < cap → w.cell? (a.add j) = some (f j) ∧ ∃ z, DataW.trod enc P w 0 (fun _ => true) true n e [f j] = some z :=
        ⟨fun j => if hj : j < cap then Classical.choose (each j hj) else .nilFunc, fun j hj => by
          simp only [dif_pos hj]
          exact Classical.choose_spec (each j hj)⟩
      obtain ⟨b, off, spot⟩ := a
      have hspot : spot = none := by simpa [Addr.add] using World.cell?_spot (hfe 0 (by omega)).1
      subst hspot
      have hcell : ∀ j, j < cap → w.cell? ⟨b, off + j, none⟩ = some (f j) := fun j hj => by rw [← Go.WideShapes.add_plain]; exact (hfe j hj).1
      obtain ⟨c, ty, fr, hb, hc0⟩ := cell_obj (hcell 0 (by omega))
      have hcj : ∀ j, j < cap → c[off + j]? = some (f j) := fun j hj => by
        obtain ⟨c', ty', fr', hb', hcj⟩ := cell_obj (hcell j hj)
        rw [hb] at hb'
        simp only [Option.some.injEq, Obj.cells.injEq] at hb'
        obtain ⟨rfl, _⟩ := hb'
        exact hcj
      have hsize : off + cap ≤ c.size := by
        have := (Array.getElem?_eq_some_iff.1 (hcj (cap - 1) (by omega))).1
        omega
      obtain ⟨φ1, h1, rs, ls, o1, r1, s1, e1, l1, l2, q⟩ := rows_lo he hi hci ((List.range len).map f) ho hr (fun u hu => by
        obtain ⟨j, hj, rfl⟩ := List.mem_map.1 hu
        obtain ⟨z, hz⟩ := (hfe j (by have := List.mem_range.1 hj; omega)).2
        exact ⟨n, z, hz⟩)
      simp only [List.length_map, List.length_range] at l1 l2
      have hat : ∀ j, j < len → ((List.range len).map f)[j]? = some (f j) := fun j hj => by simp [hj]
      refine ⟨AEv.upd φ1 h1.N ⟨b, off, cap⟩, h1.more (.cells 1 len rs), .slice h1.N 0 len len, ls, rfl, lo_add o1 r1 _ _ ?_, s1.trans (lo_stp o1 _ _), e1.trans (more_ext h1 o1 _), ?_, .inr ⟨h1.N, len, rs, by rw [l2], more_at _ _, by omega, fun j r hr' => ?_⟩, rfl⟩
      · refine ⟨c, ty, fr, hb, hsize, by show rs.length ≤ cap; omega, fun j x hx => ?_⟩
        have hj : j < len := by have := (List.getElem?_eq_some_iff.1 hx).1; omega
        obtain ⟨q1, q2, _⟩ := q j (f j) x (hat j hj) hx
        exact ⟨f j, hcj j (by omega), VR.step (lo_stp o1 _ _) _ _ q1, q2⟩
      · simp only [VR]
        exact ⟨_, cap, 1, len, _, rfl, hl, more_at _ _, Nat.le_refl _, fun _ => ⟨by simp [AEv.upd], fun _ _ => by simp [AEv.upd]⟩⟩
      · have hj : j < len := by have := (List.getElem?_eq_some_iff.1 hr').1; omega
        obtain ⟨_, _, l, q3, q4⟩ := q j (f j) r (hat j hj) hr'
        exact ⟨l, q3, q4.ext (more_ext h1 o1 _)⟩
structure RuleKey (P : Program) (k i t : TypeId) (f g l : Field) : Prop where
  hu : P.underlying k = some (.struct #[f, g, l])
  size : P.cellsOf k = 3
  ci : P.cellsOf i = 1
  ct : P.cellsOf t = 1
  f1 : f.type = i
  f2 : g.type = t
  f3 : l.type = t
  o1 : f.offset = 0
  o2 : g.offset = 1
  o3 : l.offset = 2
theorem okWide_rule {P : Program} {W : World} {k i t : TypeId} {f g l : Field} (A : RuleKey P k i t f g l) {r : Reach} {b0 : Nat} {v : Value} (h : Value.okWide P W r b0 k v) : ∃ c0 c1 c2, v = .agg #[c0, c1, c2] := by
  simp only [Value.okWide, A.hu] at h
  obtain ⟨cs, h1, h2, _⟩ := h
  rw [A.size] at h2
  obtain ⟨l⟩ := cs
  match l, h2 with
  | [c0, c1, c2], _ => exact ⟨c0, c1, c2, h1⟩
theorem rule_lo {CK : CKT} {φ : Nat → Emb} {h : Heap} {w : World} (ho : h.own = []) (hr : HR CK w [] φ h w) {H : Type} {enc : TypeId × Value → H} {P : Program} {k i t e : TypeId} {f g l : Field} {v : Value} {d : DataW H} {p : List MemPlace} (A : RuleKey P k i t f g l)
    (ht : P.underlying t = some (.slice e)) (he : P.underlying e = some (.slice i)) (hi : P.underlying i = some (.int .i64)) (hce : P.cellsOf e = 1) {r : Reach} {b0 : Nat} (hval : Value.okWide P w r b0 k v) (kd : DataW.Trod enc P w 0 (fun _ => true) true k v d p) :
    ∃ φ' h' q x y B W, h'.own = [] ∧ HR CK w [] φ' h' w ∧ Stp φ h φ' h' ∧ Ext h h' ∧ VR φ' h' (.agg [.int .i64 q, x, y]) v ∧ MR h' x B ∧ MR h' y W := by
  obtain ⟨c0, c1, c2, rfl⟩ := okWide_rule A hval
  obtain ⟨fuel, hf⟩ := kd
  cases fuel with
  | zero => simp [DataW.trod] at hf
  | succ n =>
    rw [DataW.trod_step] at hf
    unfold DataW.trodStep at hf
    simp only [A.hu, Value.cells] at hf
    rw [if_pos (by rw [A.size]; rfl)] at hf
    simp only [Option.map_eq_some_iff] at hf
    obtain ⟨xs, hx, e1⟩ := hf
    rw [List.mapM_cons, List.mapM_cons, List.mapM_cons, List.mapM_nil] at hx
    simp only [bind, Option.bind_eq_some_iff, pure, Option.some.injEq, A.ci, A.ct, A.f1, A.f2, A.f3, A.o1, A.o2, A.o3] at hx
    obtain ⟨y0, h0, _, ⟨y1, h1, _, ⟨y2, h2, _, rfl, rfl⟩, rfl⟩, rfl⟩ := hx
    have h0' : DataW.trod enc P w 0 (fun _ => true) true n i [c0] = some y0 := h0
    have h1' : DataW.trod enc P w 0 (fun _ => true) true n t [c1] = some y1 := h1
    have h2' : DataW.trod enc P w 0 (fun _ => true) true n t [c2] = some y2 := h2
    obtain ⟨a, ea, _, _⟩ := DataW.trod_int hi h0'
    obtain rfl : c0 = .int .i64 a := by simpa using ea
    obtain ⟨φ1, m1, x, B, o1, r1, s1, x1, v1, p1, q1⟩ := mat_lo0 ho hr ht he hi hce A.ci h1'
    obtain ⟨φ2, m2, y, W, o2, r2, s2, x2, v2, p2, q2⟩ := mat_lo0 o1 r1 ht he hi hce A.ci h2'
    refine ⟨φ2, m2, a, x, y, B, W, o2, r2, s1.trans s2, x1.trans x2, ?_, Go.AEv.MR.ext x2 p1, p2⟩
    simp only [VR, VRs]
    refine ⟨#[.int .i64 a, c1, c2], rfl, ⟨_, [c1, c2], rfl, rfl, c1, [c2], rfl, VR.step s2 _ _ v1, c2, [], rfl, v2, rfl⟩, fun z hz => ?_⟩
    simp only [List.mem_cons, List.not_mem_nil, or_false] at hz
    rcases hz with rfl | rfl | rfl
    · rfl
    · exact q1
    · exact q2
end Go.AEv
