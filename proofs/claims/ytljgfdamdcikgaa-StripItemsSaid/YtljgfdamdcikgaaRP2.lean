/-
  Of the functions that this law reaches, part 2: what they answer. No condition.
-/
import Derived.Test.YtljgfdamdcikgaaRP1
import Derived.WideKeyPair
import Derived.Test.YtljgfdamdcikgaaRP0
set_option linter.unusedVariables false
set_option linter.unusedSimpArgs false
namespace Go.Proofs.Ytljgfdamdcikgaa.Ev
open Go Go.AEv
attribute [local simp] evFunc initS evOps_c evTrim_c evSkip_c evExit_c evRet_c evSeq_c evCond_c evBlock_c evDraw_c runOps_n runOps_c exec_n exec_g pure1_c act AOpd.ev T.get T.set T.put evBin evUn forceT_eq forceV_eq forceL_eq evRess evRes one keep runFP_n runFP_c app_none AV.flats AV.flat came_some List.getElem?_cons_zero List.getElem?_cons_succ beqT wrapI idxI tdivI tmodI decT decF ibT ibF inT inF evScope_c if_pos if_neg Cm_some thenW_n thenW_e thenW_r blkW_n blkW_e blkW_r goI kn putAt AV.cells fillA loadA takeA mk Eff.isAll Eff.isNone Eff.commutes Eff.spares okPair apart eqAgg fits LK.fits allEq aveq eqk mmA
theorem sat_sum : ∀ L : List Nat, sat ((L.map sat).sum) = sat L.sum
  | [] => rfl
  | a :: L => by
    rw [List.map_cons, List.sum_cons, List.sum_cons, ← sat_add2, sat_sum L]
    have : sat (sat a) = sat a := by unfold sat; omega
    rw [this, sat_add2]
theorem rowS_eq (S : List (List Nat)) (k : Nat) : rowS S k = (rowC S k).map sat := by
  unfold rowS lN rowC
  rw [List.map_map]; rfl
def cnI (S : List (List Nat)) (n : Nat) : Nat := if n = 0 then 1 else (rowC S (n - 1)).sum
section
variable {S : List (List Nat)} {nn : Nat}
theorem c33_l (J : CallF) (k72 : K72 J) (os : OkS S) {Hb H : Heap} {x : AV} (tb : TB Hb H x (rowsS S nn)) (k40 : nn ≤ 40) :
    (okC S nn = true → Tr tbl J c33_l0 (fun s h => h = H ∧ s.get [true] = G nn ∧ s.get [true, false, false] = x ∧ s.get [false, true, false] = G (cnI S 0) ∧ s.get [true, true, false] = G ((0 : Nat) : Int)) (.exit 0) (fun s h => s.get [false, true, false] = G (cnI S nn) ∧ True)) ∧
    (okC S nn = false → Tr tbl J c33_l0 (fun s h => h = H ∧ s.get [true] = G nn ∧ s.get [true, false, false] = x ∧ s.get [false, true, false] = G (cnI S 0) ∧ s.get [true, true, false] = G ((0 : Nat) : Int)) .ret (fun s h => s.get [true, true] = G 0 ∧ s.get [false, false, false] = .bool false)) := by
  have key : ∀ j, j < nn → Tr tbl J (.trim [[true], [true, false, false], [false, true, false], [true, true, false]] c33_b0) (fun s h => h = H ∧ s.get [true] = G nn ∧ s.get [true, false, false] = x ∧ s.get [false, true, false] = G (cnI S j) ∧ s.get [true, true, false] = G j) (if decide ((rowC S j).sum ≤ 1152921504606846976) = true then .normal else .ret)
      (if decide ((rowC S j).sum ≤ 1152921504606846976) = true then (fun s h => h = H ∧ s.get [true] = G nn ∧ s.get [true, false, false] = x ∧ s.get [false, true, false] = G (cnI S (j + 1)) ∧ s.get [true, true, false] = G ((j + 1 : Nat) : Int)) else (fun s h => s.get [true, true] = G 0 ∧ s.get [false, false, false] = .bool false)) := fun j hj => by
    obtain ⟨bo, ros, e1, e2, e3, e4⟩ := tb.sl (i := j) (by rw [rowsS_len]; exact hj)
    rw [rowsS_len] at e1 e2 e3
    obtain ⟨br, e5, e6⟩ := e4 j _ (rowsS_at S hj)
    have lr : (gn (rowS S j)).length = S.length := lN_len _ _
    rw [lr] at e5 e6
    have e5' := getI e5
    have k := k72 H (.slice br 0 S.length S.length) (rowS S j) (.inr ⟨br, _, by rw [lr], e6⟩) (by have := os.n; rw [← gn_len, lr]; omega) (fun v hv => by
      rw [rowS_eq] at hv
      obtain ⟨u, _, rfl⟩ := List.mem_map.1 hv
      have := sat_le u; omega)
    rw [rowS_eq, sat_sum] at k
    have cs : cnI S (j + 1) = (rowC S j).sum := rfl
    rw [cs]
    have n2 := os.n
    clear tb e4 e6 cs
    subst e1
    generalize cnI S j = c0 at *
    generalize hsm : (rowC S j).sum = sm at *
    generalize S.length = n at *
    by_cases c : sm ≤ 1152921504606846976
    · rw [decide_eq_true c, if_pos rfl, if_pos rfl]
      rw [sat_of c] at k
      refine Tr.w fun s1 H1 hp _ kR => W.trim ?_
      obtain ⟨rfl, q⟩ := hp
      refine W.assoc ?_
      refine W.seq (W.chunk ?_)
      simp (disch := first|omega|exact zE rfl|exact zO|exact zL rfl) [c33_o4, zG, q]
      refine W.seq (W.chunk ?_)
      simp (disch := first|omega|exact zE rfl|exact zO|exact zL rfl) [zG, q]
      refine W.seq (W.block ?_)
      refine W.seq (W.chunk ?_)
      simp (disch := first|omega|exact zE rfl|exact zO|exact zL rfl) [c33_o5, zG, q, e2, e5, e5', e3, k]
      refine W.seq (W.chunk ?_)
      simp (disch := first|omega|exact zE rfl|exact zO|exact zL rfl) [c33_o6, zG, q]
      refine W.chunk ?_
      simp (disch := first|omega|exact zE rfl|exact zO|exact zL rfl) [c33_o7, zG, q]
      refine W.chunk ?_
      simp (disch := first|omega|exact zE rfl|exact zO|exact zL rfl) [c33_o8, zG, q]
      exact kR _ _ (by simp [T.get, q])
    · rw [decide_eq_false c, if_neg (by simp), if_neg (by simp)]
      have sg := sat_gt.2 (show 1152921504606846976 < sm by omega)
      have sl := sat_le sm
      generalize sat sm = z at *
      refine Tr.w fun s1 H1 hp _ kR => W.trim ?_
      obtain ⟨rfl, q⟩ := hp
      refine W.assoc ?_
      refine W.seq (W.chunk ?_)
      simp (disch := first|omega|exact zE rfl|exact zO|exact zL rfl) [c33_o4, zG, q]
      refine W.seq (W.chunk ?_)
      simp (disch := first|omega|exact zE rfl|exact zO|exact zL rfl) [zG, q]
      refine W.seq (W.block ?_)
      refine W.seq (W.chunk ?_)
      simp (disch := first|omega|exact zE rfl|exact zO|exact zL rfl) [c33_o5, zG, q, e2, e5, e5', e3, k]
      refine W.seq (W.chunk ?_)
      simp (disch := first|omega|exact zE rfl|exact zO|exact zL rfl) [c33_o6, zG, q]
      refine W.chunk ?_
      simp (disch := first|omega|exact zE rfl|exact zO|exact zL rfl) [c33_o7, zG, q]
      exact kR _ _ (by simp [T.get, q])
  have fin : Tr tbl J (.trim [[true], [true, false, false], [false, true, false], [true, true, false]] c33_b0) (fun s h => h = H ∧ s.get [true] = G nn ∧ s.get [true, false, false] = x ∧ s.get [false, true, false] = G (cnI S nn) ∧ s.get [true, true, false] = G nn) (.exit 0) (fun s h => s.get [false, true, false] = G (cnI S nn) ∧ True) := by
    refine Tr.w fun s1 H1 hp _ kR => W.trim ?_
    obtain ⟨rfl, q⟩ := hp
    refine W.assoc ?_
    refine W.seq (W.chunk ?_)
    simp (disch := first|omega|exact zE rfl|exact zO|exact zL rfl) [c33_o4, zG, q]
    refine W.seq (W.chunk ?_)
    simp (disch := first|omega|exact zE rfl|exact zO|exact zL rfl) [zG, q]
    exact kR _ _ (by simp [T.get, q])
  exact ⟨fun h => Tr.allT (P := fun j => (fun s h => h = H ∧ s.get [true] = G nn ∧ s.get [true, false, false] = x ∧ s.get [false, true, false] = G (cnI S j) ∧ s.get [true, true, false] = G j)) (p := fun k => decide ((rowC S k).sum ≤ 1152921504606846976)) nn (fun i hi hp => by have := key i hi; rw [if_pos hp, if_pos hp] at this; exact this) fin (by simp) nn 0 (by omega) h,
    fun h => Tr.allF (P := fun j => (fun s h => h = H ∧ s.get [true] = G nn ∧ s.get [true, false, false] = x ∧ s.get [false, true, false] = G (cnI S j) ∧ s.get [true, true, false] = G j)) (p := fun k => decide ((rowC S k).sum ≤ 1152921504606846976)) nn (fun i hi hp => by have := key i hi; rw [if_pos hp, if_pos hp] at this; exact this) (fun i hi hp => by have := key i hi; rw [if_neg (by rw [hp]; simp), if_neg (by rw [hp]; simp)] at this; exact this) (by simp) nn 0 (by omega) h⟩
end
section
variable {a : AR} {m n : Int}
def AR.rcV (a : AR) (m n : Int) : AV := if okC (a.steps m) n.toNat then .tup [G (a.cn m n.toNat), .bool true] else .tup [G 0, .bool false]
theorem c33_ok (J : CallF) (k31 : K31 J) (k71 : K71 J) (k72 : K72 J) (hJ : ∀ a h, J 33 a h = none) (h : Heap) (o : OkR a h) (g : a.gd m n 0 = true) : CallsTo tbl J 33 [a.v, G m, G n] h (a.rcV m n, [], false) := by
  unfold AR.gd at g
  simp only [Bool.and_eq_true, decide_eq_true_eq] at g
  obtain ⟨r, n1, n2⟩ := g
  obtain ⟨r1, r2⟩ := a.rm_iff r
  obtain ⟨os, s243, _⟩ := AR.steps_ok r
  obtain ⟨Hs, hHs⟩ : ∃ H, (⟨h.get, h.size, [.cells 0 3 [G a.q, a.x, a.y]]⟩ : Heap) = H := ⟨_, rfl⟩
  have oH : OkR a Hs := by rw [← hHs]; exact o.lo _
  have gS : Hs.get h.size = .cells 0 3 [G a.q, a.x, a.y] := by rw [← hHs, get_mk_ge _ _ _ _ (Nat.le_refl _), Nat.sub_self]; rfl
  obtain ⟨x, own, e31, l31⟩ := k31 Hs a.g m.toNat (oH.g r1) (by omega)
  rw [a.gv r1, show ((m.toNat : Nat) : Int) = m by omega] at e31
  obtain ⟨Z, hZ⟩ : ∃ Z, Hs.plus own = Z := ⟨_, rfl⟩
  rw [hZ] at l31
  have ln : LN Z x (a.steps m) := l31.ln
  obtain ⟨v, own2, e71, tb⟩ := k71 Z x n.toNat (a.steps m) os ln (by omega)
  obtain ⟨Z2, hZ2⟩ : ∃ H, Z.plus own2 = H := ⟨_, rfl⟩
  rw [hZ2] at tb
  have nn : ((n.toNat : Nat) : Int) = n := by omega
  have l0 := c33_l J k72 os tb (by omega)
  rw [nn] at e71 l0
  have cn0 : cnI (a.steps m) 0 = 1 := rfl
  rw [cn0] at l0
  unfold AR.rcV
  cases hc : okC (a.steps m) n.toNat
  · have l0 := l0.2 hc
    refine Tr.fnv (cf := c33) (e := .ret) (s := T.set (T.set (T.set .leaf [] a.v) [false] (G m)) [true] (G n)) (by decide) rfl (hJ _ _) rfl rfl rfl (by simp) ?_
    refine Tr.post (Q := (fun s h => s.get [true, true] = G 0 ∧ s.get [false, false, false] = .bool false)) (fun s h q => by simp [c33, q]) ?_
    clear tb ln l31 os oH o
    refine Tr.w fun s1 H1 hp _ kR => ?_
    obtain ⟨rfl, rfl⟩ := hp
    have q : True := trivial
    refine W.seq (W.chunk ?_)
    simp (disch := first|omega|exact zE rfl|exact zO|exact zL rfl) [c33_o0, size_mk, get_mk_lt, get_mk_ge, frameOf, Eff.app, Heap.setOwn, q, hHs]
    refine W.seq (W.chunk ?_)
    simp (disch := first|omega|exact zE rfl|exact zO|exact zL rfl) [c33_o1, zG, q, gS, e31, app_if, app_if', hZ, e71, hZ2]
    refine W.seq (W.chunk ?_)
    simp (disch := first|omega|exact zE rfl|exact zO|exact zL rfl) [c33_o2, zG, q]
    refine W.assoc ?_
    refine W.seq (W.chunk ?_)
    simp (disch := first|omega|exact zE rfl|exact zO|exact zL rfl) [c33_o3, zG, q]
    refine W.seq (W.block ?_)
    refine W.use (l0) (by simp (disch := first|omega|exact zE rfl|exact zO|exact zL rfl) [size_mk, get_mk_lt, get_mk_ge, frameOf, Eff.app, Heap.setOwn, q]) fun s1 H1 hp => ?_
    try simp only [zW, if_true]
    exact kR _ _ hp
  · have l0 := l0.1 hc
    refine Tr.fnv (cf := c33) (e := .ret) (s := T.set (T.set (T.set .leaf [] a.v) [false] (G m)) [true] (G n)) (by decide) rfl (hJ _ _) rfl rfl rfl (by simp) ?_
    have ec : a.cn m n.toNat = cnI (a.steps m) n.toNat := rfl
    rw [if_pos rfl, ec]
    refine Tr.post (Q := (fun s h => s.get [true, true] = G (cnI (a.steps m) n.toNat) ∧ s.get [false, false, false] = .bool true)) (fun s h q => by simp [c33, q]) ?_
    clear tb ln l31 os oH o ec
    generalize cnI (a.steps m) n.toNat = c at *
    refine Tr.w fun s1 H1 hp _ kR => ?_
    obtain ⟨rfl, rfl⟩ := hp
    have q : True := trivial
    refine W.seq (W.chunk ?_)
    simp (disch := first|omega|exact zE rfl|exact zO|exact zL rfl) [c33_o0, size_mk, get_mk_lt, get_mk_ge, frameOf, Eff.app, Heap.setOwn, q, hHs]
    refine W.seq (W.chunk ?_)
    simp (disch := first|omega|exact zE rfl|exact zO|exact zL rfl) [c33_o1, zG, q, gS, e31, app_if, app_if', hZ, e71, hZ2]
    refine W.seq (W.chunk ?_)
    simp (disch := first|omega|exact zE rfl|exact zO|exact zL rfl) [c33_o2, zG, q]
    refine W.assoc ?_
    refine W.seq (W.chunk ?_)
    simp (disch := first|omega|exact zE rfl|exact zO|exact zL rfl) [c33_o3, zG, q]
    refine W.seq (W.block ?_)
    refine W.use (l0) (by simp (disch := first|omega|exact zE rfl|exact zO|exact zL rfl) [size_mk, get_mk_lt, get_mk_ge, frameOf, Eff.app, Heap.setOwn, q]) fun s1 H1 hp => ?_
    obtain ⟨q, _⟩ := hp
    try simp only [zW, if_true]
    refine W.seq (W.chunk ?_)
    simp (disch := first|omega|exact zE rfl|exact zO|exact zL rfl) [c33_o9, zG, q]
    refine W.ret ?_
    try simp only [zW, if_true]
    exact kR _ _ (by simp [T.get, q])
end
def Pre33 (b : ARmn) (args : List AV) (h : Heap) : Prop := (OkR b.a h ∧ b.a.gd b.m b.n 0 = true) ∧ args = [b.a.v, G b.m, G b.n]
def Post33 (b : ARmn) (h : Heap) (v : AV) (own : List AObj) : Prop := v = b.a.rcV b.m b.n ∧ own = []
noncomputable def T41 : CallF := addK tbl T40 33 Pre33 Post33
theorem t41 : Sound Go.Proofs.Try.prog T41 := Sound.addK follows ok t40 (by decide) _ _
abbrev K33 (J : CallF) : Prop := ∀ (h : Heap) (a : AR) (m n : Int), OkR a h → a.gd m n 0 = true → J 33 [a.v, G m, G n] h = some (a.rcV m n, [], false)
theorem k31_40 : K31 T40 := fun h a m o m5 => by
  obtain ⟨v, own, e, l⟩ := k31 h a m o m5
  exact ⟨v, own, by rw [show T40 31 [a.v, G m] h = T25 31 [a.v, G m] h from by simp (disch := decide) only [T26, T27, T28, T29, T30, T31, T32, T33, T34, T35, T36, T37, T38, T39, T40, addI_ne, addX_ne, addV_ne, addK_ne]]; exact e, l⟩
theorem k72_40 : K72 T40 := fun h x L h1 h2 h3 => by
  rw [show T40 72 [x] h = T36 72 [x] h from by simp (disch := decide) only [T37, T38, T39, T40, addI_ne, addX_ne, addV_ne, addK_ne]]; exact k72 h x L h1 h2 h3
theorem k33 : K33 T41 := fun h a m n o g => by
  obtain ⟨v, own, e, rfl, rfl⟩ := addK_some (Pre := Pre33) (Post := Post33) (fun b args h hp => by
    obtain ⟨⟨o, g⟩, rfl⟩ := hp
    exact ⟨_, _, c33_ok T40 k31_40 k71 k72_40 (fun _ _ => by simp (disch := decide) only [T1, T2, T3, T4, T5, T6, T7, T8, T9, T10, T11, T12, T13, T14, T15, T16, T17, T18, T19, T20, T21, T22, T23, T24, T25, T26, T27, T28, T29, T30, T31, T32, T33, T34, T35, T36, T37, T38, T39, T40, addI_ne, addX_ne, addV_ne, addK_ne]; rfl) h o g, rfl, rfl⟩) ⟨a, m, n⟩ _ h ⟨⟨o, g⟩, rfl⟩
  exact e
def nE (L : List Nat) (v i : Nat) : Bool := decide (L.getD i 0 ≠ v)
theorem nE_all {L : List Nat} {v : Nat} : af (nE L v) 0 L.length = decide (v ∉ L) := by
  rw [Bool.eq_iff_iff, af_iff, decide_eq_true_eq]
  constructor
  · intro a hv
    obtain ⟨i, hi, rfl⟩ := List.mem_iff_getElem.1 hv
    have := a i (Nat.zero_le _) (by omega)
    unfold nE at this
    rw [decide_eq_true_eq, List.getD_eq_getElem?_getD, List.getElem?_eq_getElem hi] at this
    exact this rfl
  · intro hv i _ hi
    unfold nE
    rw [decide_eq_true_eq, List.getD_eq_getElem?_getD, List.getElem?_eq_getElem (by omega)]
    intro e
    exact hv (e ▸ List.getElem_mem _)
section
variable {L : List Nat} {v : Nat}
theorem c93_l (J : CallF) {H : Heap} {b w : Nat} (g : H.get b = .cells 1 w (gn L)) (hn : L.length ≤ 1000000) :
    (af (nE L v) 0 L.length = true → Tr tbl J c93_l0 (fun s h => h = H ∧ s.get [] = .slice b 0 L.length w ∧ s.get [false] = G v ∧ s.get [false, false, false] = G L.length ∧ s.get [true, false, false] = G ((0 : Nat) : Int)) (.exit 0) (fun s h => True)) ∧
    (af (nE L v) 0 L.length = false → Tr tbl J c93_l0 (fun s h => h = H ∧ s.get [] = .slice b 0 L.length w ∧ s.get [false] = G v ∧ s.get [false, false, false] = G L.length ∧ s.get [true, false, false] = G ((0 : Nat) : Int)) .ret (fun s h => ∃ z : Nat, s.get [true, false] = G z)) := by
  have lg := gn_len L
  have key : ∀ i, i < L.length → Tr tbl J (.trim [[], [false], [false, false, false], [true, false, false]] c93_b0) (fun s h => h = H ∧ s.get [] = .slice b 0 L.length w ∧ s.get [false] = G v ∧ s.get [false, false, false] = G L.length ∧ s.get [true, false, false] = G i) (if nE L v i then .normal else .ret)
      (if nE L v i then (fun s h => h = H ∧ s.get [] = .slice b 0 L.length w ∧ s.get [false] = G v ∧ s.get [false, false, false] = G L.length ∧ s.get [true, false, false] = G ((i + 1 : Nat) : Int)) else (fun s h => ∃ z : Nat, s.get [true, false] = G z)) := fun i hi => by
    have e1 := gn_at hi
    have e1' := getI e1
    unfold nE
    generalize L.getD i 0 = x at *
    generalize L.length = n at *
    generalize gn L = cs at *
    by_cases c : x = v
    · subst c
      rw [if_neg (by simp), if_neg (by simp)]
      refine Tr.w fun s1 H1 hp _ kR => W.trim ?_
      obtain ⟨rfl, q⟩ := hp
      refine W.seq (W.chunk ?_)
      simp (disch := first|omega|exact zE rfl|exact zO|exact zL rfl) [c93_o2, zG, q]
      refine W.seq (W.chunk ?_)
      simp (disch := first|omega|exact zE rfl|exact zO|exact zL rfl) [zG, q]
      refine W.seq (W.block ?_)
      refine W.seq (W.chunk ?_)
      simp (disch := first|omega|exact zE rfl|exact zO|exact zL rfl) [c93_o3, zG, q]
      refine W.seq (W.chunk ?_)
      simp (disch := first|omega|exact zE rfl|exact zO|exact zL rfl) [c93_o4, zG, q, g, e1, e1', lg]
      refine W.chunk ?_
      simp (disch := first|omega|exact zE rfl|exact zO|exact zL rfl) [c93_o5, zG, q]
      exact kR _ _ ⟨i, by simp [T.get, q]⟩
    · rw [if_pos (by simpa using c), if_pos (by simpa using c)]
      have c' : ¬ (v : Int) = x := by omega
      refine Tr.w fun s1 H1 hp _ kR => W.trim ?_
      obtain ⟨rfl, q⟩ := hp
      refine W.seq (W.chunk ?_)
      simp (disch := first|omega|exact zE rfl|exact zO|exact zL rfl) [c93_o2, zG, q]
      refine W.seq (W.chunk ?_)
      simp (disch := first|omega|exact zE rfl|exact zO|exact zL rfl) [zG, q]
      refine W.seq (W.block ?_)
      refine W.seq (W.chunk ?_)
      simp (disch := first|omega|exact zE rfl|exact zO|exact zL rfl) [c93_o3, zG, q]
      refine W.seq (W.chunk ?_)
      simp (disch := first|omega|exact zE rfl|exact zO|exact zL rfl) [c93_o4, zG, q, g, e1, e1', lg, c']
      refine W.chunk ?_
      simp (disch := first|omega|exact zE rfl|exact zO|exact zL rfl) [c93_o5, zG, q]
      refine W.chunk ?_
      simp (disch := first|omega|exact zE rfl|exact zO|exact zL rfl) [c93_o6, zG, q]
      exact kR _ _ (by simp [T.get, q])
  have fin : Tr tbl J (.trim [[], [false], [false, false, false], [true, false, false]] c93_b0) (fun s h => h = H ∧ s.get [] = .slice b 0 L.length w ∧ s.get [false] = G v ∧ s.get [false, false, false] = G L.length ∧ s.get [true, false, false] = G L.length) (.exit 0) (fun s h => True) := by
    generalize L.length = n at *
    refine Tr.w fun s1 H1 hp _ kR => W.trim ?_
    obtain ⟨rfl, q⟩ := hp
    refine W.seq (W.chunk ?_)
    simp (disch := first|omega|exact zE rfl|exact zO|exact zL rfl) [c93_o2, zG, q]
    refine W.seq (W.chunk ?_)
    simp (disch := first|omega|exact zE rfl|exact zO|exact zL rfl) [zG, q]
    exact kR _ _ trivial
  exact ⟨Tr.allT (P := fun i => (fun s h => h = H ∧ s.get [] = .slice b 0 L.length w ∧ s.get [false] = G v ∧ s.get [false, false, false] = G L.length ∧ s.get [true, false, false] = G i)) L.length (fun i hi hp => by have := key i hi; rw [if_pos hp, if_pos hp] at this; exact this) fin (by simp) _ 0 (by omega),
    Tr.allF (P := fun i => (fun s h => h = H ∧ s.get [] = .slice b 0 L.length w ∧ s.get [false] = G v ∧ s.get [false, false, false] = G L.length ∧ s.get [true, false, false] = G i)) L.length (fun i hi hp => by have := key i hi; rw [if_pos hp, if_pos hp] at this; exact this) (fun i hi hp => by have := key i hi; rw [if_neg (by rw [hp]; simp), if_neg (by rw [hp]; simp)] at this; exact this) (by simp) _ 0 (by omega)⟩
theorem c93_ok (J : CallF) (hJ : ∀ a h, J 93 a h = none) (h : Heap) {x : AV} (rv : RV h x (gn L)) (hn : L.length ≤ 1000000) : ∃ z own, CallsTo tbl J 93 [x, G v] h (z, own, false) ∧ (∃ k : Int, z = G k ∧ (decide (0 ≤ k) = decide (v ∈ L))) ∧ own = [] := by
  refine Tr.fny (Good := fun z own => (∃ k : Int, z = G k ∧ (decide (0 ≤ k) = decide (v ∈ L))) ∧ own = []) (cf := c93) (e := .ret) (s := T.set (T.set .leaf [] x) [false] (G v)) (by decide) rfl (hJ _ _) rfl rfl (by simp) ?_
  refine Tr.post (Q := fun s h => ∃ k : Int, s.get [true, false] = G k ∧ decide (0 ≤ k) = decide (v ∈ L)) (fun s h' q => by
    obtain ⟨k, e, q2⟩ := q
    exact ⟨[G k], by simp [c93, evRess, evRes, e], ⟨k, rfl, q2⟩, rfl⟩) ?_
  rcases rv.frame with ⟨rfl, e⟩ | ⟨b, w, rfl, g⟩
  · have : L = [] := by simpa [gn] using e
    subst this
    have l0 : Tr tbl J c93_l0 (fun s h' => h' = frameOf h ∧ s.get [] = .nils ∧ s.get [false] = G v ∧ s.get [false, false, false] = G 0 ∧ s.get [true, false, false] = G 0) (.exit 0) (fun s h => True) := by
      refine Tr.out ?_ (by simp)
      refine Tr.w fun s1 H1 hp _ kR => W.trim ?_
      obtain ⟨rfl, q⟩ := hp
      refine W.seq (W.chunk ?_)
      simp (disch := first|omega|exact zE rfl|exact zO|exact zL rfl) [c93_o2, zG, q]
      refine W.seq (W.chunk ?_)
      simp (disch := first|omega|exact zE rfl|exact zO|exact zL rfl) [zG, q]
      exact kR _ _ trivial
    refine Tr.w fun s1 H1 hp _ kR => ?_
    obtain ⟨rfl, rfl⟩ := hp
    have q : True := trivial
    refine W.seq (W.chunk ?_)
    simp (disch := first|omega|exact zE rfl|exact zO|exact zL rfl) [c93_o0, zG, q]
    refine W.assoc ?_
    refine W.seq (W.chunk ?_)
    simp (disch := first|omega|exact zE rfl|exact zO|exact zL rfl) [c93_o1, zG, q]
    refine W.seq (W.block ?_)
    refine W.use (l0) (by simp (disch := first|omega|exact zE rfl|exact zO|exact zL rfl) [zG, q]) fun s1 H1 hp => ?_
    try simp only [zW, if_true]
    refine W.seq (W.chunk ?_)
    simp (disch := first|omega|exact zE rfl|exact zO|exact zL rfl) [c93_o7, zG, q]
    refine W.ret ?_
    try simp only [zW, if_true]
    exact kR _ _ ⟨-1, by simp [T.get], by simp⟩
  · rw [gn_len]
    have l0 := c93_l (v := v) J g hn
    rw [nE_all] at l0
    clear g rv
    generalize L.length = n at *
    by_cases c : v ∈ L
    · have l0 := l0.2 (by simp [c])
      refine Tr.w fun s1 H1 hp _ kR => ?_
      obtain ⟨rfl, rfl⟩ := hp
      have q : True := trivial
      refine W.seq (W.chunk ?_)
      simp (disch := first|omega|exact zE rfl|exact zO|exact zL rfl) [c93_o0, zG, q]
      refine W.assoc ?_
      refine W.seq (W.chunk ?_)
      simp (disch := first|omega|exact zE rfl|exact zO|exact zL rfl) [c93_o1, zG, q]
      refine W.seq (W.block ?_)
      refine W.use (l0) (by simp (disch := first|omega|exact zE rfl|exact zO|exact zL rfl) [zG, q]) fun s1 H1 hp => ?_
      try simp only [zW, if_true]
      obtain ⟨z, e⟩ := hp
      exact kR _ _ ⟨z, e, by simp [c]⟩
    · have l0 := l0.1 (by simp [c])
      refine Tr.w fun s1 H1 hp _ kR => ?_
      obtain ⟨rfl, rfl⟩ := hp
      have q : True := trivial
      refine W.seq (W.chunk ?_)
      simp (disch := first|omega|exact zE rfl|exact zO|exact zL rfl) [c93_o0, zG, q]
      refine W.assoc ?_
      refine W.seq (W.chunk ?_)
      simp (disch := first|omega|exact zE rfl|exact zO|exact zL rfl) [c93_o1, zG, q]
      refine W.seq (W.block ?_)
      refine W.use (l0) (by simp (disch := first|omega|exact zE rfl|exact zO|exact zL rfl) [zG, q]) fun s1 H1 hp => ?_
      try simp only [zW, if_true]
      refine W.seq (W.chunk ?_)
      simp (disch := first|omega|exact zE rfl|exact zO|exact zL rfl) [c93_o7, zG, q]
      refine W.ret ?_
      try simp only [zW, if_true]
      exact kR _ _ ⟨-1, by simp [T.get], by simp [c]⟩
theorem c70_ok (J : CallF) (k93 : ∀ (h : Heap) (x : AV) (v : Nat) (L : List Nat), RV h x (gn L) → L.length ≤ 1000000 → ∃ k : Int, J 93 [x, G v] h = some (G k, [], false) ∧ decide (0 ≤ k) = decide (v ∈ L)) (hJ : ∀ a h, J 70 a h = none) (h : Heap) {x : AV} (rv : RV h x (gn L)) (hn : L.length ≤ 1000000) : CallsTo tbl J 70 [x, G v] h (.bool (decide (v ∈ L)), [], false) := by
  refine Tr.fnv (cf := c70) (e := .ret) (s := T.set (T.set .leaf [] x) [false] (G v)) (by decide) rfl (hJ _ _) rfl rfl rfl (by simp) ?_
  refine Tr.post (Q := (fun s h => s.get [true, false] = .bool (decide (v ∈ L)))) (fun s h q => by simp [c70, q]) ?_
  obtain ⟨k, e, hk⟩ := k93 (frameOf h) x v L rv.frame hn
  rw [← hk]
  clear hk
  refine Tr.w fun s1 H1 hp _ kR => ?_
  obtain ⟨rfl, rfl⟩ := hp
  have q : True := trivial
  by_cases c : 0 ≤ k
  · refine W.seq (W.chunk ?_)
    simp (disch := first|omega|exact zE rfl|exact zO|exact zL rfl) [c70_o0, zG, q]
    refine W.seq (W.chunk ?_)
    simp (disch := first|omega|exact zE rfl|exact zO|exact zL rfl) [c70_o1, zG, q, e, c]
    refine W.ret ?_
    try simp only [zW, if_true]
    exact kR _ _ (by simp [T.get, c])
  · refine W.seq (W.chunk ?_)
    simp (disch := first|omega|exact zE rfl|exact zO|exact zL rfl) [c70_o0, zG, q]
    refine W.seq (W.chunk ?_)
    simp (disch := first|omega|exact zE rfl|exact zO|exact zL rfl) [c70_o1, zG, q, e, c]
    refine W.ret ?_
    try simp only [zW, if_true]
    exact kR _ _ (by simp [T.get, c])
end
def Pre93 (b : AV × Nat × List Nat) (args : List AV) (h : Heap) : Prop := (RV h b.1 (gn b.2.2) ∧ b.2.2.length ≤ 1000000) ∧ args = [b.1, G b.2.1]
def Post93 (b : AV × Nat × List Nat) (h : Heap) (v : AV) (own : List AObj) : Prop := (∃ k : Int, v = G k ∧ (decide (0 ≤ k) = decide (b.2.1 ∈ b.2.2))) ∧ own = []
noncomputable def T42 : CallF := addK tbl T41 93 Pre93 Post93
theorem t42 : Sound Go.Proofs.Try.prog T42 := Sound.addK follows ok t41 (by decide) _ _
theorem k93 : ∀ (h : Heap) (x : AV) (v : Nat) (L : List Nat), RV h x (gn L) → L.length ≤ 1000000 → ∃ k : Int, T42 93 [x, G v] h = some (G k, [], false) ∧ decide (0 ≤ k) = decide (v ∈ L) := fun h x v L h1 h2 => by
  obtain ⟨z, own, e, ⟨k, rfl, hk⟩, rfl⟩ := addK_some (Pre := Pre93) (Post := Post93) (fun b args h hp => by
    obtain ⟨⟨h1, h2⟩, rfl⟩ := hp
    exact c93_ok T41 (fun _ _ => by simp (disch := decide) only [T1, T2, T3, T4, T5, T6, T7, T8, T9, T10, T11, T12, T13, T14, T15, T16, T17, T18, T19, T20, T21, T22, T23, T24, T25, T26, T27, T28, T29, T30, T31, T32, T33, T34, T35, T36, T37, T38, T39, T40, T41, addI_ne, addX_ne, addV_ne, addK_ne]; rfl) h h1 h2) (x, v, L) _ h ⟨⟨h1, h2⟩, rfl⟩
  exact ⟨k, e, hk⟩
def Post70 (b : AV × Nat × List Nat) (h : Heap) (v : AV) (own : List AObj) : Prop := v = .bool (decide (b.2.1 ∈ b.2.2)) ∧ own = []
noncomputable def T43 : CallF := addK tbl T42 70 Pre93 Post70
theorem t43 : Sound Go.Proofs.Try.prog T43 := Sound.addK follows ok t42 (by decide) _ _
abbrev K70 (J : CallF) : Prop := ∀ (h : Heap) (x : AV) (v : Nat) (L : List Nat), RV h x (gn L) → L.length ≤ 1000000 → J 70 [x, G v] h = some (.bool (decide (v ∈ L)), [], false)
theorem k70 : K70 T43 := fun h x v L h1 h2 => by
  obtain ⟨z, own, e, rfl, rfl⟩ := addK_some (Pre := Pre93) (Post := Post70) (fun b args h hp => by
    obtain ⟨⟨h1, h2⟩, rfl⟩ := hp
    exact ⟨_, _, c70_ok T42 k93 (fun _ _ => by simp (disch := decide) only [T1, T2, T3, T4, T5, T6, T7, T8, T9, T10, T11, T12, T13, T14, T15, T16, T17, T18, T19, T20, T21, T22, T23, T24, T25, T26, T27, T28, T29, T30, T31, T32, T33, T34, T35, T36, T37, T38, T39, T40, T41, T42, addI_ne, addX_ne, addV_ne, addK_ne]; rfl) h h1 h2, rfl, rfl⟩) (x, v, L) _ h ⟨⟨h1, h2⟩, rfl⟩
  exact e
def pE (S : List (List Nat)) (g : Nat → Nat) (i j : Nat) : Nat := ((List.range i).map fun i' => ((S.getD i' []).count j) * g i').sum
def ev (S : List (List Nat)) (f : Nat) : Nat → Nat → Nat
  | 0, j => if j = f then 1 else 0
  | k + 1, j => pE S (ev S f k) S.length j
def vE (S : List (List Nat)) (f k : Nat) : List Nat := lN (ev S f k) S.length
section
variable {S : List (List Nat)} {p w26 w27 : Nat}
end
section
variable {S : List (List Nat)} {p w26 w27 : Nat}
def okE (S : List (List Nat)) (f nn : Nat) : Bool := af (fun k => decide ((vE S f (k + 1)).sum ≤ 1152921504606846976)) 0 (nn - 1)
end
structure A75 where
  p : Nat
  f : Nat
  N : Nat
  S : List (List Nat)
def Ok75 (b : A75) (h : Heap) : Prop := OkS b.S ∧ LF h b.p b.S ∧ b.f < b.S.length ∧ b.N + 1 ≤ 40
def Pre75 (b : A75) (args : List AV) (h : Heap) : Prop := Ok75 b h ∧ args = [.ptr b.p 0 3, G b.f, G (b.N + 1 : Nat)]
def Post75 (b : A75) (h : Heap) (v : AV) (own : List AObj) : Prop := (okE b.S b.f (b.N + 1) = true → ∃ x, v = .tup [x, .bool true] ∧ RV (h.plus own) x (gn (vE b.S b.f b.N))) ∧ (okE b.S b.f (b.N + 1) = false → v = .tup [.nils, .bool false] ∧ own = [])
noncomputable def T44 : CallF := addK tbl T43 75 Pre75 Post75
theorem t44 : Sound Go.Proofs.Try.prog T44 := Sound.addK follows ok t43 (by decide) _ _
def rT (S : List (List Nat)) (N f i : Nat) : Nat := if f ∈ S.getD i [] then ev S f N i else 0
def rP (S : List (List Nat)) (N f i : Nat) : Nat := ((List.range i).map (rT S N f)).sum
def rA (S : List (List Nat)) (N f : Nat) : Nat := ((List.range f).map fun f' => rP S N f' S.length).sum
def gE (S : List (List Nat)) (N f : Nat) : Bool := okE S f (N + 1) && decide (rA S N (f + 1) ≤ 1152921504606846976)
def okR (S : List (List Nat)) (N : Nat) : Bool := af (gE S N) 0 S.length
section
variable {S : List (List Nat)} {p N : Nat}
end
def AR.rn (a : AR) (m : Int) (n : Nat) : Nat := rA (a.steps m) (n - 1) (a.steps m).length
def AR.okr (a : AR) (m : Int) (n : Nat) : Bool := okR (a.steps m) (n - 1)
def AR.rngV (a : AR) (m n : Int) : AV := if a.gd m n 1 then (if a.okr m n.toNat then .tup [G (a.rn m n.toNat), G 0] else .tup [G 0, G 5]) else .tup [G 0, G 2]
section
variable {a : AR} {m n : Int}
end
def Post41 (b : ARmn) (h : Heap) (v : AV) (own : List AObj) : Prop := v = b.a.rngV b.m b.n ∧ own = []
noncomputable def T45 : CallF := addK tbl T44 41 PreMn Post41
theorem t45 : Sound Go.Proofs.Try.prog T45 := Sound.addK follows ok t44 (by decide) _ _
def okA (S : List (List Nat)) (N : Nat) : Bool := af (fun f => okE S f (N + 1)) 0 S.length
section
variable {a : AG} {m N p : Nat} {R : List (List Nat)}
end
def AR.oka (a : AR) (m : Int) (n : Nat) : Bool := okA (a.steps m) (n - 1)
def AR.rrV (a : AR) (m n : Int) : AV := if a.oka m n.toNat then .tup [G (sat (a.rn m n.toNat)), .bool (decide (sat (a.rn m n.toNat) ≤ 1152921504606846976))] else .tup [G 0, .bool false]
section
variable {a : AR} {m n : Int}
end
def Pre42 (b : ARmn) (args : List AV) (h : Heap) : Prop := (OkR b.a h ∧ b.a.gd b.m b.n 1 = true) ∧ args = [b.a.v, G b.m, G b.n]
def Post42 (b : ARmn) (h : Heap) (v : AV) (own : List AObj) : Prop := v = b.a.rrV b.m b.n ∧ own = []
noncomputable def T46 : CallF := addK tbl T45 42 Pre42 Post42
theorem t46 : Sound Go.Proofs.Try.prog T46 := Sound.addK follows ok t45 (by decide) _ _
theorem ws_ss (R : List (List Nat)) : wsL R = ss (R.map stW) := by simp [wsL]
theorem TB.lt' {H0 h h' : Heap} {x : AV} {N : List (List Int)} (t : TB H0 h x (N.map gs)) (k : Kp (fun _ => False) h h') : LT h' x N := t.lt.kp k
section
variable {nq m : Int} {X Y : List (List Int)}
end
def mdZ (x n : Int) : Int := (x % 18446744073709551616) % n
def spec19 : SpecV
  | [.int .i64 x, .int .i64 n] => if 0 < n ∧ n < 9223372036854775808 then some (G (mdZ x n)) else none
  | _ => none
theorem wrap_u64 (n : Int) : IntKind.u64.wrap n = n % 18446744073709551616 := by
  unfold IntKind.wrap IntKind.bits IntKind.signed
  simp
theorem c19_ok (J : CallF) (hJ : ∀ a h, J 19 a h = none) (x n : Int) (h1 : 0 < n) (h2 : n < 9223372036854775808) : CallsTo tbl J 19 [G x, G n] e0 (G (mdZ x n), [], false) := by
  unfold mdZ
  refine CallsTo.plain (cf := c19) (h' := frameOf e0) (by decide) rfl (hJ _ _) rfl rfl ?_
  have w : n % 18446744073709551616 = n := Int.emod_eq_of_lt (by omega) (by omega)
  have hz : ¬ n = 0 := by omega
  have hm : (x % 18446744073709551616).tmod n = (x % 18446744073709551616) % n := Int.tmod_eq_emod_of_nonneg (Int.emod_nonneg _ (by decide))
  have a1 := Int.emod_nonneg (x % 18446744073709551616) hz
  have a2 := Int.emod_lt_of_pos (x % 18446744073709551616) h1
  simp [c19, c19_o0, c19_o1, wrap_u64, w, hz, hm, wrapI ((x % 18446744073709551616) % n) (by omega) (by omega)]
noncomputable def T47 : CallF := addV T46 19 spec19
theorem t47 : Sound Go.Proofs.Try.prog T47 := Sound.addV follows ok t46 (by decide) (fun args v h => by
  unfold spec19 at h
  split at h
  · split at h
    · rename_i hn
      simp only [Option.some.injEq] at h; subst h
      exact c19_ok T46 (fun _ _ => by simp (disch := decide) only [T1, T2, T3, T4, T5, T6, T7, T8, T9, T10, T11, T12, T13, T14, T15, T16, T17, T18, T19, T20, T21, T22, T23, T24, T25, T26, T27, T28, T29, T30, T31, T32, T33, T34, T35, T36, T37, T38, T39, T40, T41, T42, T43, T44, T45, T46, addI_ne, addX_ne, addV_ne, addK_ne]; rfl) _ _ hn.1 hn.2
    · cases h
  · cases h)
structure A56 where
  x : AV
  M : List (List Int)
  i : Nat
  k : Nat
def Pre56 (b : A56) (args : List AV) (h : Heap) : Prop := (MR h b.x b.M ∧ b.i ≤ 1000 ∧ b.k ≤ 1000) ∧ args = [b.x, G b.i, G b.k]
def Post56 (b : A56) (h : Heap) (v : AV) (own : List AObj) : Prop := (∃ b : Int, v = G b ∧ 0 ≤ b ∧ b ≤ 1) ∧ own = []
noncomputable def T48 : CallF := addK tbl T47 56 Pre56 Post56
theorem t48 : Sound Go.Proofs.Try.prog T48 := Sound.addK follows ok t47 (by decide) _ _
end Go.Proofs.Ytljgfdamdcikgaa.Ev
set_option linter.unusedVariables false
set_option linter.unusedSimpArgs false
namespace Go.Proofs.Ytljgfdamdcikgaa.Ev
open Go Go.AEv
structure N2 (H0 h : Heap) (xa xb : AV) (La Lb : List Int) : Prop where
  k : Kp (fun _ => False) H0 h
  a0 : ∀ q, blk xa = some q → H0.size ≤ q
  b0 : ∀ q, blk xb = some q → H0.size ≤ q
  la : LV h xa (gs La)
  lb : LV h xb (gs Lb)
  d : ∀ q, blk xa = some q → blk xb ≠ some q
theorem N2.nil (H0 : Heap) : N2 H0 H0 .nils .nils [] [] := ⟨Kp.refl _, fun _ e => (by cases e), fun _ e => (by cases e), LV.nil _, LV.nil _, fun _ e => (by cases e)⟩
theorem N2.swap {H0 h : Heap} {xa xb : AV} {La Lb : List Int} (t : N2 H0 h xa xb La Lb) : N2 H0 h xb xa Lb La := ⟨t.k, t.b0, t.a0, t.lb, t.la, fun q e1 e2 => t.d q e2 e1⟩
theorem N2.app {H0 h : Heap} (h0 : Nat) {xa xb : AV} {La Lb : List Int} (t : N2 H0 h xa xb La Lb) (z : Int) (hn : La.length ≤ 1000000) :
    ∃ x1 e h2, appA (h.plus [.cells 1 1 [G z]]) h0 none 1 8 1 [G z] xa = some (x1, e) ∧ Eff.app e (h.plus [.cells 1 1 [G z]]) = some h2 ∧ N2 H0 h2 x1 xb (La ++ [z]) Lb := by
  have k1 : Kp (fun _ => False) h (h.plus [.cells 1 1 [G z]]) := Kp.plus _ _
  obtain ⟨x1, e, h2, q1, q2, q3, q4, q5, q6⟩ := app_v (h.plus [.cells 1 1 [G z]]) h0 8 (G z) (t.la.kp k1 (fun _ _ => id)) (by simp; omega)
  have hsz : (h.plus [.cells 1 1 [G z]]).size = h.size + 1 := by rw [plus_size]; rfl
  refine ⟨x1, e, h2, q1, q2, ⟨(t.k.trans k1).late q4 t.a0, fun q hq => ?_, t.b0, by simpa using q3, (t.lb.kp k1 (fun _ _ => id)).kp q4 (fun q e1 e2 => t.d q e2 e1), fun q hq e => ?_⟩⟩
  · rcases q5 with h' | ⟨_, h'⟩
    · rw [h'] at hq; exact t.a0 q hq
    · rw [h'] at hq; cases hq; have := t.k.size; omega
  · rcases q5 with h' | ⟨_, h'⟩
    · rw [h'] at hq; exact t.d q hq e
    · rw [h'] at hq; cases hq; have := t.lb.lt e; omega
def TR (H0 h : Heap) (xb xw : AV) (M : List (List AV)) : Prop := ∃ rs, LV h xb rs ∧ rs.length = M.length ∧ ∀ (i : Nat) r, rs[i]? = some r → ∃ cs b, M[i]? = some cs ∧ r = .slice b 0 cs.length cs.length ∧ h.get b = .cells 1 cs.length cs ∧ blk xb ≠ some b ∧ blk xw ≠ some b ∧ H0.size ≤ b
structure T2t (H0 h : Heap) (s3 : Nat) (xb xw : AV) (M N : List (List AV)) : Prop where
  k : Kp (· = s3) H0 h
  b0 : ∀ c, blk xb = some c → H0.size ≤ c
  w0 : ∀ c, blk xw = some c → H0.size ≤ c
  rb : TR H0 h xb xw M
  rw' : TR H0 h xw xb N
  d : ∀ c, blk xb = some c → blk xw ≠ some c
theorem T2t.nil (H0 : Heap) (s3 : Nat) : T2t H0 H0 s3 .nils .nils [] [] := ⟨Kp.refl _, fun _ e => (by cases e), fun _ e => (by cases e), ⟨[], LV.nil _, rfl, fun i r e => by simp at e⟩, ⟨[], LV.nil _, rfl, fun i r e => by simp at e⟩, fun _ e => (by cases e)⟩
theorem T2t.swap {H0 h : Heap} {s3 : Nat} {xb xw : AV} {M N : List (List AV)} (t : T2t H0 h s3 xb xw M N) : T2t H0 h s3 xw xb N M := ⟨t.k, t.w0, t.b0, t.rw', t.rb, fun c e1 e2 => t.d c e2 e1⟩
theorem TR.kp {X : Nat → Prop} {H0 h h' : Heap} {xb xw : AV} {M : List (List AV)} (t : TR H0 h xb xw M) (k : Kp X h h') (h1 : ∀ b, blk xb = some b → ¬ X b) (h2 : ∀ b, H0.size ≤ b → blk xw ≠ some b → ¬ X b) : TR H0 h' xb xw M := by
  obtain ⟨rs, lv, hl, hr⟩ := t
  refine ⟨rs, lv.kp k h1, hl, fun i r e => ?_⟩
  obtain ⟨cs, b, e1, e2, e3, e4, e5, e6⟩ := hr i r e
  exact ⟨cs, b, e1, e2, k.at e3 (by simp) (h2 b e6 e5), e4, e5, e6⟩
theorem T2t.kp {H0 h h' : Heap} {s3 : Nat} {xb xw : AV} {M N : List (List AV)} (t : T2t H0 h s3 xb xw M N) (k : Kp (fun _ => False) h h') : T2t H0 h' s3 xb xw M N :=
  ⟨t.k.trans (k.mono fun _ _ e => e.elim), t.b0, t.w0, t.rb.kp k (fun _ _ => id) (fun _ _ _ => id), t.rw'.kp k (fun _ _ => id) (fun _ _ _ => id), t.d⟩
theorem T2t.upd {H0 h : Heap} {s3 : Nat} {xb xw : AV} {M N : List (List AV)} (t : T2t H0 h s3 xb xw M N) (X : AObj) (hN : h.N ≤ s3) (hs : s3 < H0.size) : T2t H0 (h.upd s3 X) s3 xb xw M N := by
  have k : Kp (· = s3) h (h.upd s3 X) := Kp.upd _ _ _ hN rfl
  exact ⟨t.k.trans k, t.b0, t.w0, t.rb.kp k (fun b e q => by have := t.b0 b e; omega) (fun b e _ q => by omega), t.rw'.kp k (fun b e q => by have := t.w0 b e; omega) (fun b e _ q => by omega), t.d⟩
theorem T2t.app {H0 h : Heap} (h0 : Nat) {s3 : Nat} {xb xw : AV} {M N : List (List AV)} {b : Nat} {cs : List AV} (t : T2t H0 h s3 xb xw M N) (hs : s3 < H0.size) (hv : h.get b = .cells 1 cs.length cs) (hb : blk xb ≠ some b ∧ blk xw ≠ some b ∧ H0.size ≤ b) (hn : M.length ≤ 1000000) :
    ∃ x1 e h2, appA (h.plus [.cells 1 1 [.slice b 0 cs.length cs.length]]) h0 none 1 24 1 [.slice b 0 cs.length cs.length] xb = some (x1, e) ∧ Eff.app e (h.plus [.cells 1 1 [.slice b 0 cs.length cs.length]]) = some h2 ∧ T2t H0 h2 s3 x1 xw (M ++ [cs]) N ∧ Kp (fun c => blk xb = some c) h h2 ∧ (∀ c, c < h.size → blk xb ≠ some c → blk x1 ≠ some c) := by
  obtain ⟨rs, lv, hl, hr⟩ := t.rb
  generalize hvv : AV.slice b 0 cs.length cs.length = v
  have k1 : Kp (fun _ => False) h (h.plus [.cells 1 1 [v]]) := Kp.plus _ _
  obtain ⟨x1, e, h2, q1, q2, q3, q4, q5, q6⟩ := app_v (h.plus [.cells 1 1 [v]]) h0 24 v (lv.kp k1 (fun _ _ => id)) (by omega)
  have hsz : (h.plus [.cells 1 1 [v]]).size = h.size + 1 := by rw [plus_size]; rfl
  have hx1 : ∀ q, q < h.size → blk xb ≠ some q → blk x1 ≠ some q := fun q hq hne hx1 => by
    rcases q5 with h' | ⟨_, h'⟩
    · rw [h'] at hx1; exact hne hx1
    · rw [h'] at hx1; cases hx1; omega
  have kk : Kp (fun c => blk xb = some c) h h2 := (k1.mono fun _ _ e => e.elim).trans q4
  have hxn : ∀ c, blk x1 = some c → blk xw ≠ some c ∧ H0.size ≤ c := fun c hc => by
    rcases q5 with h' | ⟨_, h'⟩
    · rw [h'] at hc; exact ⟨t.d c hc, t.b0 c hc⟩
    · rw [h'] at hc; cases hc
      refine ⟨fun e => ?_, by have := t.k.size; omega⟩
      obtain ⟨rs', lv', _⟩ := t.rw'
      have := lv'.lt e; omega
  refine ⟨x1, e, h2, q1, q2, ⟨?_, fun c hc => (hxn c hc).2, t.w0, ⟨rs ++ [v], q3, by simp [hl], fun i r hi => ?_⟩, ?_, fun c hc => (hxn c hc).1⟩, kk, hx1⟩
  · refine ⟨by rw [kk.lo, t.k.lo], by rw [kk.N, t.k.N], Nat.le_trans t.k.size kk.size, fun c hc hm => ?_⟩
    rw [kk.get c (Nat.lt_of_lt_of_le hc t.k.size) (fun e => by have := t.b0 c e; omega), t.k.get c hc hm]
  · by_cases hi' : i < rs.length
    · rw [List.getElem?_append_left hi'] at hi
      obtain ⟨l', b', h1, h2', h3, h4, h5, h6⟩ := hr i r hi
      have hlt := get_lt h3 (by simp)
      exact ⟨l', b', by rw [List.getElem?_append_left (by omega)]; exact h1, h2', kk.at h3 (by simp) (fun q => h4 q), hx1 b' hlt h4, h5, h6⟩
    · rw [List.getElem?_append_right (by omega)] at hi
      have hi0 : i - rs.length = 0 := by
        rcases Nat.eq_zero_or_pos (i - rs.length) with e | e
        · exact e
        · rw [List.getElem?_eq_none (by simp; omega)] at hi; cases hi
      rw [hi0] at hi
      simp only [List.getElem?_cons_zero, Option.some.injEq] at hi
      subst hi
      exact ⟨cs, b, by rw [List.getElem?_append_right (by omega), ← hl, hi0]; rfl, hvv.symm, kk.at hv (by simp) (fun q => hb.1 q), hx1 b (get_lt hv (by simp)) hb.1, hb.2.1, hb.2.2⟩
  · obtain ⟨rs', lv', hl', hr'⟩ := t.rw'
    refine ⟨rs', lv'.kp kk (fun c e1 e2 => t.d c e2 e1), hl', fun i r hi => ?_⟩
    obtain ⟨l', b', h1, h2', h3, h4, h5, h6⟩ := hr' i r hi
    exact ⟨l', b', h1, h2', kk.at h3 (by simp) (fun q => h5 q), h4, hx1 b' (get_lt h3 (by simp)) h5, h6⟩
theorem T2t.sh {H0 h : Heap} {s3 : Nat} {xb xw : AV} {M N : List (List AV)} {cs : List AV} (t : T2t H0 h s3 xb xw (M ++ [cs]) N) : ∃ c m, xb = .slice c 0 m m := by
  obtain ⟨rs, lv, hl, _⟩ := t.rb
  obtain ⟨c, e, _⟩ := lv.sl (by intro e; rw [e] at hl; simp at hl)
  exact ⟨c, _, e⟩
theorem T2t.tb {H0 h : Heap} {s3 : Nat} {xb xw : AV} {M N : List (List AV)} (t : T2t H0 h s3 xb xw M N) {Hb : Heap} (k0 : Kp (fun _ => False) Hb h) (hs : Hb.size ≤ H0.size) : TB Hb h xb M := by
  obtain ⟨rs, lv, hl, hr⟩ := t.rb
  exact ⟨k0, fun q hq => Nat.le_trans hs (t.b0 q hq), rs, lv, hl, fun i r hi => by
    obtain ⟨cs, b, h1, h2, h3, h4, h5, h6⟩ := hr i r hi
    exact ⟨cs, b, h1, h2, h3, h4, Nat.le_trans hs h6⟩⟩
end Go.Proofs.Ytljgfdamdcikgaa.Ev
set_option linter.unusedVariables false
set_option linter.unusedSimpArgs false
namespace Go.Proofs.Ytljgfdamdcikgaa.Ev
open Go Go.AEv
attribute [local simp] evFunc initS evOps_c evTrim_c evSkip_c evExit_c evRet_c evSeq_c evCond_c evBlock_c evDraw_c runOps_n runOps_c exec_n exec_g pure1_c act AOpd.ev T.get T.set T.put evBin evUn forceT_eq forceV_eq forceL_eq evRess evRes one keep runFP_n runFP_c app_none AV.flats AV.flat came_some List.getElem?_cons_zero List.getElem?_cons_succ beqT wrapI idxI tdivI tmodI decT decF ibT ibF inT inF evScope_c if_pos if_neg Cm_some thenW_n thenW_e thenW_r blkW_n blkW_e blkW_r goI kn putAt AV.cells fillA loadA takeA mk Eff.isAll Eff.isNone Eff.commutes Eff.spares okPair apart eqAgg fits LK.fits allEq aveq eqk mmA
section
variable {X Y : List (List Int)} {x y : AV} {nq S : Nat}
structure RD (S nq : Nat) (nz : Int) (x y : AV) (X Y : List (List Int)) (h : Heap) : Prop where
  gS : h.get S = .cells 0 3 [G nz, x, y]
  g3 : ∃ xb xw, h.get (S + 2) = .cells 0 3 [G nq, xb, xw]
  mx : MR h x X
  my : MR h y Y
theorem RD.kp {nz : Int} {h h' : Heap} (r : RD S nq nz x y X Y h) (k : Kp (fun _ => False) h h') : RD S nq nz x y X Y h' := by
  obtain ⟨xb, xw, g⟩ := r.g3
  exact ⟨k.at r.gS (by simp) id, ⟨xb, xw, k.at g (by simp) id⟩, r.mx.kp k, r.my.kp k⟩
end
def Pre18 (a : ATs) (args : List AV) (h : Heap) : Prop := Ok24 a h ∧ args = [.agg [G a.q, a.x, a.y]]
def Post18 (a : ATs) (h : Heap) (v : AV) (own : List AObj) : Prop := ∃ n x' y' B W, v = .agg [G (n : Nat), x', y'] ∧ (1 ≤ n ∧ n ≤ 3) ∧ (TB h (h.plus own) x' (B.map gs) ∧ tabQ n B = true) ∧ TB h (h.plus own) y' (W.map gs) ∧ tabQ n W = true
noncomputable def T49 : CallF := addK tbl T48 18 Pre18 Post18
theorem t49 : Sound Go.Proofs.Try.prog T49 := Sound.addK follows ok t48 (by decide) _ _
end Go.Proofs.Ytljgfdamdcikgaa.Ev
set_option linter.unusedVariables false
set_option linter.unusedSimpArgs false
namespace Go.Proofs.Ytljgfdamdcikgaa.Ev
open Go Go.AEv
def fd (p : Nat → Bool) (w : Nat → Nat) : Nat → Nat → Nat → Nat × Nat
  | 0, i, k => (i, k)
  | d + 1, i, k => if p i = true then (if k < w i then (i, k) else fd p w d (i + 1) (k - w i)) else fd p w d (i + 1) k
def ft (p : Nat → Bool) (w : Nat → Nat) : Nat → Nat → Nat
  | 0, _ => 0
  | d + 1, i => (if p i = true then w i else 0) + ft p w d (i + 1)
def pk (w : Nat → Nat) : List Nat → Nat → Nat × Nat
  | [], k => (0, k)
  | c :: L, k => if k < w c then (c, k) else pk w L (k - w c)
theorem pk_ok {w : Nat → Nat} : ∀ {L : List Nat} {k : Nat}, k < (L.map w).sum → (pk w L k).1 ∈ L ∧ (pk w L k).2 < w (pk w L k).1 ∧ (pk w L k).2 ≤ k
  | [], k, h => by simp at h
  | c :: L, k, h => by
    rw [List.map_cons, List.sum_cons] at h
    unfold pk
    by_cases e : k < w c
    · rw [if_pos e]; exact ⟨by simp, e, Nat.le_refl _⟩
    · rw [if_neg e]
      obtain ⟨h1, h2, h3⟩ := pk_ok (w := w) (L := L) (k := k - w c) (by omega)
      exact ⟨List.mem_cons_of_mem _ h1, h2, by omega⟩
theorem ft_sum (p : Nat → Bool) (w : Nat → Nat) : ∀ d i, ft p w d i = (((List.range' i d).filter p).map w).sum
  | 0, i => rfl
  | d + 1, i => by
    unfold ft
    rw [List.range'_succ, List.filter_cons, ft_sum p w d (i + 1)]
    cases p i <;> simp
theorem fd_pk {p : Nat → Bool} {w : Nat → Nat} : ∀ {d i k : Nat}, k < ft p w d i → fd p w d i k = pk w ((List.range' i d).filter p) k
  | 0, i, k, h => by simp [ft] at h
  | d + 1, i, k, h => by
    unfold ft at h
    unfold fd
    rw [List.range'_succ, List.filter_cons]
    cases hp : p i
    · rw [hp, if_neg (by simp), Nat.zero_add] at h
      rw [if_neg (by simp), if_neg (by simp)]
      exact fd_pk h
    · rw [hp, if_pos rfl] at h
      rw [if_pos rfl, if_pos rfl]
      unfold pk
      by_cases e : k < w i
      · rw [if_pos e, if_pos e]
      · rw [if_neg e, if_neg e]
        exact fd_pk (by omega)
def itm (S : List (List Nat)) : Nat → List Nat → Nat → List Nat
  | 0, _, _ => []
  | j + 1, L, k => (pk (cnt S j) L k).1 :: itm S j (S.getD (pk (cnt S j) L k).1 []) (pk (cnt S j) L k).2
theorem itm_len (S : List (List Nat)) : ∀ j L k, (itm S j L k).length = j
  | 0, _, _ => rfl
  | j + 1, L, k => by
    unfold itm
    rw [List.length_cons, itm_len S j]
def pN (S : List (List Nat)) (now : Int) (i : Nat) : Bool := decide (now < 0) || decide (i ∈ S.getD now.toNat [])
def Srt (S : List (List Nat)) : Prop := ∀ c, S.getD c [] = (List.range S.length).filter fun i => decide (i ∈ S.getD c [])
theorem srt_st (W : List (List Int)) (R : List (List Nat)) : Srt (stL W R) := fun c => by
  have hl : (stL W R).length = R.length := by simp [stL]
  rw [hl]
  rw [List.getD_eq_getElem?_getD]
  unfold stL
  rw [List.getElem?_map]
  cases R[c]? with
  | none => simp
  | some r =>
    show nxL W R r = (List.range R.length).filter fun i => decide (i ∈ nxL W R r)
    conv => lhs; unfold nxL
    refine List.filter_congr fun i hi => ?_
    unfold nxL
    rw [Bool.eq_iff_iff, decide_eq_true_iff, List.mem_filter]
    exact ⟨fun h => ⟨hi, h⟩, fun h => h.2⟩
def nwL (S : List (List Nat)) (now : Int) : List Nat := if now < 0 then List.range S.length else S.getD now.toNat []
theorem nw_filter {S : List (List Nat)} (hs : Srt S) (now : Int) : (List.range' 0 S.length).filter (pN S now) = nwL S now := by
  unfold nwL pN
  rw [← List.range_eq_range']
  by_cases h : now < 0
  · rw [if_pos h]; simp [h]
  · rw [if_neg h]
    have : (fun i => decide (now < 0) || decide (i ∈ S.getD now.toNat [])) = fun i => decide (i ∈ S.getD now.toNat []) := by
      funext i; rw [decide_eq_false h, Bool.false_or]
    rw [this]; exact (hs _).symm
end Go.Proofs.Ytljgfdamdcikgaa.Ev
set_option linter.unusedVariables false
set_option linter.unusedSimpArgs false
namespace Go.Proofs.Ytljgfdamdcikgaa.Ev
open Go Go.AEv
attribute [local simp] evFunc initS evOps_c evTrim_c evSkip_c evExit_c evRet_c evSeq_c evCond_c evBlock_c evDraw_c runOps_n runOps_c exec_n exec_g pure1_c act AOpd.ev T.get T.set T.put evBin evUn forceT_eq forceV_eq forceL_eq evRess evRes one keep runFP_n runFP_c app_none AV.flats AV.flat came_some List.getElem?_cons_zero List.getElem?_cons_succ beqT wrapI idxI tdivI tmodI decT decF ibT ibF inT inF evScope_c if_pos if_neg Cm_some thenW_n thenW_e thenW_r blkW_n blkW_e blkW_r goI kn putAt AV.cells fillA loadA takeA mk Eff.isAll Eff.isNone Eff.commutes Eff.spares okPair apart eqAgg fits LK.fits allEq aveq eqk mmA
section
variable {S R : List (List Nat)} {p N : Nat}
theorem c32_l0_ok (J : CallF) (k70 : K70 J) {Hb H : Heap} {z : AV} {L : List AV} (nv : NV Hb H z L) (hL : L.length ≤ 1000) (lf : LF H p S) {bo br bx v : Nat} {ros : List AV} (lo : ros.length = N) (g1 : H.get bo = .cells 1 N ros) {j : Nat} (er : ros[j]? = some (.slice br 0 S.length S.length)) (gr : H.get br = .cells 1 S.length (gn (rowC S j))) (hj : j < N) (h40 : N ≤ 40) (gx : H.get bx = .cells 1 v (wsL R)) (hR : R.length = S.length) (os : OkS S) {now : Int} (hw : now = -1 ∨ ∃ c : Nat, now = c ∧ c < S.length) (bd : ∀ i, i < S.length → cnt S j i ≤ 1152921504606846976) :
    ∀ d i k, i + d = S.length → k ≤ 1152921504606846976 → k < ft (pN S now) (cnt S j) d i →
    Tr tbl J c32_l0 (fun s h => h = H ∧ s.get [false, false] = G k ∧ s.get [true, true, false] = .ptr p 0 3 ∧ s.get [false, false, true] = .slice bo 0 N N ∧ s.get [false, false, false, false] = z ∧ s.get [true, false, false, false] = G now ∧ s.get [false, true, false, false] = G j ∧ s.get [true, false, false, true, false, false] = .slice bx 0 S.length v ∧ s.get [false, true, false, true, false, false] = G S.length ∧ s.get [true, true, false, true, false, false] = G i) (.exit 2)
      (fun s h => ∃ z', NV Hb h z' (L ++ [.str (stW (R.getD (fd (pN S now) (cnt S j) d i k).1 []))]) ∧ s.get [false, false] = G (fd (pN S now) (cnt S j) d i k).2 ∧ s.get [true, true, false] = .ptr p 0 3 ∧ s.get [false, false, true] = .slice bo 0 N N ∧ s.get [false, false, false, false] = z' ∧ s.get [true, false, false, false] = G (fd (pN S now) (cnt S j) d i k).1 ∧ s.get [false, true, false, false] = G j) := by
  intro d
  induction d with
  | zero => intro i k _ _ hk; simp [ft] at hk
  | succ d ih =>
    intro i k hi hk0 hk
    have n2 := os.n
    have hi' : i < S.length := by omega
    have er' := getI er
    have e1 := gn_at (L := rowC S j) (i := i) (by rw [rowC_len]; exact hi')
    rw [rowC_at S j hi'] at e1
    have e1' := getI e1
    have l1 : (gn (rowC S j)).length = S.length := by rw [gn_len, rowC_len]
    have bi := bd i hi'
    have ew := wsL_at (R := R) (i := i) (by omega)
    have ew' := getI ew
    have lw : (wsL R).length = S.length := by rw [wsL_len, hR]
    have tst : (now = -1 ∧ pN S now i = true) ∨ ∃ (c : Nat) (x : AV) (mb nb : Nat) (rs : List AV) (y : AV), now = c ∧ c < S.length ∧ H.get p = .cells 0 3 [x, .map mb, .slice nb 0 S.length S.length] ∧ H.get nb = .cells 1 S.length rs ∧ rs[c]? = some y ∧ J 70 [y, G i] H = some (.bool (pN S now i), [], false) := by
      rcases hw with rfl | ⟨c, rfl, hc⟩
      · exact .inl ⟨rfl, rfl⟩
      · obtain ⟨x, mb, nb, rs, f1, _, f3, f4⟩ := lf
        obtain ⟨y, ey, rv⟩ := f4 c hc
        refine .inr ⟨c, x, mb, nb, rs, y, rfl, hc, f1, f3, ey, ?_⟩
        rw [k70 H y i (S.getD c []) rv (by have := os.len c; omega)]
        have e : pN S (c : Int) i = decide (i ∈ S.getD c []) := by
          unfold pN
          rw [show decide ((c : Int) < 0) = false from decide_eq_false (by omega), Bool.false_or, Int.toNat_natCast]
        rw [e]
    have ihS := fun k' => ih (i + 1) k' (by omega)
    obtain ⟨x1, e, H2, q1, q2, nv2, q4⟩ := nv.app H.size 16 (.str (stW (R.getD i []))) (by omega)
    unfold ft at hk
    unfold fd
    clear ih lf nv bd os hw
    generalize pN S now = pp at *
    generalize gn (rowC S j) = cs at *
    cases hp : pp i
    · rw [hp] at tst
      rw [hp, if_neg (by simp), Nat.zero_add] at hk
      rw [if_neg (by simp)]
      have ihk := ihS k hk0 hk
      obtain ⟨c, x, mb, nb, rs, y, rfl, hc, f1, f3, ey, k7⟩ := tst.resolve_left (fun e => by cases e.2)
      have ey' := getI ey
      have lrs : c < rs.length := (List.getElem?_eq_some_iff.1 ey).1
      clear ihS tst nv2 q1 q2 q4
      generalize cnt S j i = w at *
      generalize stW (R.getD i []) = u at *
      have step : Tr tbl J (.trim [[false, false], [true, true, false], [false, false, true], [false, false, false, false], [true, false, false, false], [false, true, false, false], [true, false, false, true, false, false], [false, true, false, true, false, false], [true, true, false, true, false, false]] c32_b0) (fun s h => h = H ∧ s.get [false, false] = G k ∧ s.get [true, true, false] = .ptr p 0 3 ∧ s.get [false, false, true] = .slice bo 0 N N ∧ s.get [false, false, false, false] = z ∧ s.get [true, false, false, false] = G c ∧ s.get [false, true, false, false] = G j ∧ s.get [true, false, false, true, false, false] = .slice bx 0 S.length v ∧ s.get [false, true, false, true, false, false] = G S.length ∧ s.get [true, true, false, true, false, false] = G i) .normal (fun s h => h = H ∧ s.get [false, false] = G k ∧ s.get [true, true, false] = .ptr p 0 3 ∧ s.get [false, false, true] = .slice bo 0 N N ∧ s.get [false, false, false, false] = z ∧ s.get [true, false, false, false] = G c ∧ s.get [false, true, false, false] = G j ∧ s.get [true, false, false, true, false, false] = .slice bx 0 S.length v ∧ s.get [false, true, false, true, false, false] = G S.length ∧ s.get [true, true, false, true, false, false] = G ((i + 1 : Nat) : Int)) := by
        clear ihk
        generalize S.length = n at *
        refine Tr.w fun s1 H1 hp _ kR => W.trim ?_
        obtain ⟨rfl, q⟩ := hp
        refine W.seq (W.chunk ?_)
        simp (disch := first|omega|exact zE rfl|exact zO|exact zL rfl) [c32_o17, zG, q]
        refine W.seq (W.chunk ?_)
        simp (disch := first|omega|exact zE rfl|exact zO|exact zL rfl) [zG, q]
        refine W.seq (W.block ?_)
        refine W.seq (W.chunk ?_)
        simp (disch := first|omega|exact zE rfl|exact zO|exact zL rfl) [c32_o18, zG, q, gx, ew, ew', lw]
        refine W.assoc ?_
        refine W.seq (W.chunk ?_)
        simp (disch := first|omega|exact zE rfl|exact zO|exact zL rfl) [c32_o19, zG, q, f1, f3, ey, ey', k7]
        refine W.seq (W.cond (v := true) (by simp (disch := first|omega|exact zE rfl|exact zO|exact zL rfl) [zG, q]) ?_)
        simp only [if_true, if_false, Bool.false_eq_true]
        refine W.exit ?_
        try simp only [zW, if_true]
        refine W.chunk ?_
        simp (disch := first|omega|exact zE rfl|exact zO|exact zL rfl) [c32_o24, zG, q]
        exact kR _ _ (by simp [T.get, q])
      exact Tr.next step ihk
    · rw [hp] at tst
      rw [hp, if_pos rfl] at hk
      rw [if_pos rfl]
      by_cases hlt : k < cnt S j i
      · rw [if_pos hlt]
        clear ihS
        refine Tr.out ?_ (by simp)
        generalize cnt S j i = w at *
        generalize stW (R.getD i []) = u at *
        generalize S.length = n at *
        rcases tst with ⟨rfl, _⟩ | ⟨c, x, mb, nb, rs, y, rfl, hc, f1, f3, ey, k7⟩
        · refine Tr.w fun s1 H1 hp _ kR => W.trim ?_
          obtain ⟨rfl, q⟩ := hp
          refine W.seq (W.chunk ?_)
          simp (disch := first|omega|exact zE rfl|exact zO|exact zL rfl) [c32_o17, zG, q]
          refine W.seq (W.chunk ?_)
          simp (disch := first|omega|exact zE rfl|exact zO|exact zL rfl) [zG, q]
          refine W.seq (W.block ?_)
          refine W.seq (W.chunk ?_)
          simp (disch := first|omega|exact zE rfl|exact zO|exact zL rfl) [c32_o18, zG, q, gx, ew, ew', lw]
          refine W.assoc ?_
          refine W.seq (W.chunk ?_)
          simp (disch := first|omega|exact zE rfl|exact zO|exact zL rfl) [c32_o19, zG, q]
          refine W.seq (W.cond (v := false) (by simp (disch := first|omega|exact zE rfl|exact zO|exact zL rfl) [zG, q]) ?_)
          simp only [if_true, if_false, Bool.false_eq_true]
          refine W.skip ?_
          try simp only [zW, if_true]
          refine W.assoc ?_
          refine W.seq (W.chunk ?_)
          simp (disch := first|omega|exact zE rfl|exact zO|exact zL rfl) [c32_o20, zG, q, g1, lo, er, er', gr, l1, e1, e1']
          refine W.seq (W.cond (v := true) (by simp (disch := first|omega|exact zE rfl|exact zO|exact zL rfl) [zG, q]) ?_)
          simp only [if_true, if_false, Bool.false_eq_true]
          refine W.seq (W.chunk ?_)
          simp (disch := first|omega|exact zE rfl|exact zO|exact zL rfl) [c32_o21, zG, q, q1, q2, app1_at, elems, rdOf]
          refine W.seq (W.chunk ?_)
          simp (disch := first|omega|exact zE rfl|exact zO|exact zL rfl) [c32_o22, zG, q]
          refine W.exit ?_
          try simp only [zW, if_true]
          exact kR _ _ ⟨_, nv2, by simp [T.get, q]⟩
        · have ey' := getI ey
          have lrs : c < rs.length := (List.getElem?_eq_some_iff.1 ey).1
          refine Tr.w fun s1 H1 hp _ kR => W.trim ?_
          obtain ⟨rfl, q⟩ := hp
          refine W.seq (W.chunk ?_)
          simp (disch := first|omega|exact zE rfl|exact zO|exact zL rfl) [c32_o17, zG, q]
          refine W.seq (W.chunk ?_)
          simp (disch := first|omega|exact zE rfl|exact zO|exact zL rfl) [zG, q]
          refine W.seq (W.block ?_)
          refine W.seq (W.chunk ?_)
          simp (disch := first|omega|exact zE rfl|exact zO|exact zL rfl) [c32_o18, zG, q, gx, ew, ew', lw]
          refine W.assoc ?_
          refine W.seq (W.chunk ?_)
          simp (disch := first|omega|exact zE rfl|exact zO|exact zL rfl) [c32_o19, zG, q, f1, f3, ey, ey', k7]
          refine W.seq (W.cond (v := false) (by simp (disch := first|omega|exact zE rfl|exact zO|exact zL rfl) [zG, q]) ?_)
          simp only [if_true, if_false, Bool.false_eq_true]
          refine W.skip ?_
          try simp only [zW, if_true]
          refine W.assoc ?_
          refine W.seq (W.chunk ?_)
          simp (disch := first|omega|exact zE rfl|exact zO|exact zL rfl) [c32_o20, zG, q, g1, lo, er, er', gr, l1, e1, e1']
          refine W.seq (W.cond (v := true) (by simp (disch := first|omega|exact zE rfl|exact zO|exact zL rfl) [zG, q]) ?_)
          simp only [if_true, if_false, Bool.false_eq_true]
          refine W.seq (W.chunk ?_)
          simp (disch := first|omega|exact zE rfl|exact zO|exact zL rfl) [c32_o21, zG, q, q1, q2, app1_at, elems, rdOf]
          refine W.seq (W.chunk ?_)
          simp (disch := first|omega|exact zE rfl|exact zO|exact zL rfl) [c32_o22, zG, q]
          refine W.exit ?_
          try simp only [zW, if_true]
          exact kR _ _ ⟨_, nv2, by simp [T.get, q]⟩
      · rw [if_neg hlt]
        have ihk := ihS (k - cnt S j i) (by omega) (by omega)
        have kk : ((k - cnt S j i : Nat) : Int) = (k : Int) - (cnt S j i : Int) := by omega
        rw [kk] at ihk
        clear ihS nv2 q1 q2 q4 kk
        have step : Tr tbl J (.trim [[false, false], [true, true, false], [false, false, true], [false, false, false, false], [true, false, false, false], [false, true, false, false], [true, false, false, true, false, false], [false, true, false, true, false, false], [true, true, false, true, false, false]] c32_b0) (fun s h => h = H ∧ s.get [false, false] = G k ∧ s.get [true, true, false] = .ptr p 0 3 ∧ s.get [false, false, true] = .slice bo 0 N N ∧ s.get [false, false, false, false] = z ∧ s.get [true, false, false, false] = G now ∧ s.get [false, true, false, false] = G j ∧ s.get [true, false, false, true, false, false] = .slice bx 0 S.length v ∧ s.get [false, true, false, true, false, false] = G S.length ∧ s.get [true, true, false, true, false, false] = G i) .normal (fun s h => h = H ∧ s.get [false, false] = G ((k : Int) - (cnt S j i : Int)) ∧ s.get [true, true, false] = .ptr p 0 3 ∧ s.get [false, false, true] = .slice bo 0 N N ∧ s.get [false, false, false, false] = z ∧ s.get [true, false, false, false] = G now ∧ s.get [false, true, false, false] = G j ∧ s.get [true, false, false, true, false, false] = .slice bx 0 S.length v ∧ s.get [false, true, false, true, false, false] = G S.length ∧ s.get [true, true, false, true, false, false] = G ((i + 1 : Nat) : Int)) := by
          clear ihk
          generalize cnt S j i = w at *
          generalize stW (R.getD i []) = u at *
          generalize S.length = n at *
          rcases tst with ⟨rfl, _⟩ | ⟨c, x, mb, nb, rs, y, rfl, hc, f1, f3, ey, k7⟩
          · refine Tr.w fun s1 H1 hp _ kR => W.trim ?_
            obtain ⟨rfl, q⟩ := hp
            refine W.seq (W.chunk ?_)
            simp (disch := first|omega|exact zE rfl|exact zO|exact zL rfl) [c32_o17, zG, q]
            refine W.seq (W.chunk ?_)
            simp (disch := first|omega|exact zE rfl|exact zO|exact zL rfl) [zG, q]
            refine W.seq (W.block ?_)
            refine W.seq (W.chunk ?_)
            simp (disch := first|omega|exact zE rfl|exact zO|exact zL rfl) [c32_o18, zG, q, gx, ew, ew', lw]
            refine W.assoc ?_
            refine W.seq (W.chunk ?_)
            simp (disch := first|omega|exact zE rfl|exact zO|exact zL rfl) [c32_o19, zG, q]
            refine W.seq (W.cond (v := false) (by simp (disch := first|omega|exact zE rfl|exact zO|exact zL rfl) [zG, q]) ?_)
            simp only [if_true, if_false, Bool.false_eq_true]
            refine W.skip ?_
            try simp only [zW, if_true]
            refine W.assoc ?_
            refine W.seq (W.chunk ?_)
            simp (disch := first|omega|exact zE rfl|exact zO|exact zL rfl) [c32_o20, zG, q, g1, lo, er, er', gr, l1, e1, e1']
            refine W.seq (W.chunk ?_)
            simp (disch := first|omega|exact zE rfl|exact zO|exact zL rfl) [c32_o21, c32_o22, zG, q]
            refine W.chunk ?_
            simp (disch := first|omega|exact zE rfl|exact zO|exact zL rfl) [c32_o23, zG, q, g1, lo, er, er', gr, l1, e1, e1']
            refine W.chunk ?_
            simp (disch := first|omega|exact zE rfl|exact zO|exact zL rfl) [c32_o24, zG, q]
            exact kR _ _ (by simp [T.get, q])
          · have ey' := getI ey
            have lrs : c < rs.length := (List.getElem?_eq_some_iff.1 ey).1
            refine Tr.w fun s1 H1 hp _ kR => W.trim ?_
            obtain ⟨rfl, q⟩ := hp
            refine W.seq (W.chunk ?_)
            simp (disch := first|omega|exact zE rfl|exact zO|exact zL rfl) [c32_o17, zG, q]
            refine W.seq (W.chunk ?_)
            simp (disch := first|omega|exact zE rfl|exact zO|exact zL rfl) [zG, q]
            refine W.seq (W.block ?_)
            refine W.seq (W.chunk ?_)
            simp (disch := first|omega|exact zE rfl|exact zO|exact zL rfl) [c32_o18, zG, q, gx, ew, ew', lw]
            refine W.assoc ?_
            refine W.seq (W.chunk ?_)
            simp (disch := first|omega|exact zE rfl|exact zO|exact zL rfl) [c32_o19, zG, q, f1, f3, ey, ey', k7]
            refine W.seq (W.cond (v := false) (by simp (disch := first|omega|exact zE rfl|exact zO|exact zL rfl) [zG, q]) ?_)
            simp only [if_true, if_false, Bool.false_eq_true]
            refine W.skip ?_
            try simp only [zW, if_true]
            refine W.assoc ?_
            refine W.seq (W.chunk ?_)
            simp (disch := first|omega|exact zE rfl|exact zO|exact zL rfl) [c32_o20, zG, q, g1, lo, er, er', gr, l1, e1, e1']
            refine W.seq (W.chunk ?_)
            simp (disch := first|omega|exact zE rfl|exact zO|exact zL rfl) [c32_o21, c32_o22, zG, q]
            refine W.chunk ?_
            simp (disch := first|omega|exact zE rfl|exact zO|exact zL rfl) [c32_o23, zG, q, g1, lo, er, er', gr, l1, e1, e1']
            refine W.chunk ?_
            simp (disch := first|omega|exact zE rfl|exact zO|exact zL rfl) [c32_o24, zG, q]
            exact kR _ _ (by simp [T.get, q])
        exact Tr.next step ihk
theorem c32_l1_ok (J : CallF) (k70 : K70 J) {Hb : Heap} (lf : LF Hb p S) {x0 nx0 : AV} {mb : Nat} (f1 : Hb.get p = .cells 0 3 [x0, .map mb, nx0]) (rx : RV Hb x0 (wsL R)) (hR : R.length = S.length) (os : OkS S) (hs : Srt S) {bo : Nat} {ros : List AV} (gT : Hb.get bo = .cells 1 N ros) (lo : ros.length = N) (tb : ∀ j, j < N → ∃ br, ros[j]? = some (.slice br 0 S.length S.length) ∧ Hb.get br = .cells 1 S.length (gn (rowC S j))) (h40 : N ≤ 40) (bd : ∀ j, j < N → ∀ i, i < S.length → cnt S j i ≤ 1152921504606846976) :
    ∀ (j : Nat) (now : Int) (k : Nat) z L H, NV Hb H z L → L.length + j ≤ 40 → j ≤ N → (now = -1 ∨ ∃ c : Nat, now = c ∧ c < S.length) → k ≤ 1152921504606846976 → (∀ j', j = j' + 1 → k < ((nwL S now).map (cnt S j')).sum) →
    Tr tbl J c32_l1 (fun s h => h = H ∧ s.get [false, false] = G k ∧ s.get [true, true, false] = .ptr p 0 3 ∧ s.get [false, false, true] = .slice bo 0 N N ∧ s.get [false, false, false, false] = z ∧ s.get [true, false, false, false] = G now ∧ s.get [false, true, false, false] = G ((j : Int) - 1)) (.exit 0)
      (fun s h => ∃ z', NV Hb h z' (L ++ wsL ((itm S j (nwL S now) k).map fun c => R.getD c [])) ∧ s.get [false, false, false, false] = z') := by
  intro j
  induction j with
  | zero =>
    intro now k z L H nv o1 o2 o3 o4 o5
    have nv : NV Hb H z (L ++ wsL ((itm S 0 (nwL S now) k).map fun c => R.getD c [])) := by
      show NV Hb H z (L ++ [])
      rw [List.append_nil]; exact nv
    generalize L ++ wsL ((itm S 0 (nwL S now) k).map fun c => R.getD c []) = L2 at *
    clear o1 o2 o3 o4 o5 lf f1 rx hR os hs gT tb bd lo
    refine Tr.out ?_ (by simp)
    refine Tr.w fun s1 H1 hp _ kR => W.trim ?_
    obtain ⟨rfl, q⟩ := hp
    refine W.assoc ?_
    refine W.seq (W.chunk ?_)
    simp (disch := first|omega|exact zE rfl|exact zO|exact zL rfl) [c32_o15, zG, q]
    refine W.seq (W.chunk ?_)
    simp (disch := first|omega|exact zE rfl|exact zO|exact zL rfl) [zG, q]
    exact kR _ _ ⟨_, nv, by simp [T.get, q]⟩
  | succ j ih =>
    intro now k z L H nv hl hj hw hk hs0
    have n2 := os.n
    have hk1 := hs0 j rfl
    have hn : 0 < S.length := by
      rcases hw with rfl | ⟨c, rfl, hc⟩
      · rcases Nat.eq_zero_or_pos S.length with h | h
        · have : nwL S (-1) = [] := by
            unfold nwL
            rw [if_pos (by omega), h]; rfl
          rw [this] at hk1; simp at hk1
        · exact h
      · omega
    obtain ⟨bx, v, rfl, gx⟩ : ∃ b v, x0 = .slice b 0 S.length v ∧ Hb.get b = .cells 1 v (wsL R) := by
      rcases rx with ⟨_, e⟩ | ⟨b, v, e, g⟩
      · have : (wsL R).length = 0 := by rw [e]; rfl
        rw [wsL_len, hR] at this; omega
      · rw [wsL_len, hR] at e; exact ⟨b, v, e, g⟩
    obtain ⟨br, er, gr⟩ := tb j (by omega)
    have kH := nv.k
    have f1' := kH.at f1 (by simp) id
    have fs := ft_sum (pN S now) (cnt S j) S.length 0
    rw [nw_filter hs] at fs
    have hk2 : k < ft (pN S now) (cnt S j) S.length 0 := by rw [fs]; exact hk1
    have fp := fd_pk hk2
    rw [nw_filter hs] at fp
    obtain ⟨p1, p2, p3⟩ := pk_ok hk1
    have l0 := c32_l0_ok (p := p) J k70 nv (by omega) (lf.kp kH) lo (kH.at gT (by simp) id) er (kH.at gr (by simp) id) (by omega) h40 (kH.at gx (by simp) id) hR os hw (bd j (by omega)) S.length 0 k (by omega) hk hk2
    rw [fp] at l0
    have it : itm S (j + 1) (nwL S now) k = (pk (cnt S j) (nwL S now) k).1 :: itm S j (S.getD (pk (cnt S j) (nwL S now) k).1 []) (pk (cnt S j) (nwL S now) k).2 := rfl
    rw [it]
    generalize hc : (pk (cnt S j) (nwL S now) k).1 = c at *
    generalize hk' : (pk (cnt S j) (nwL S now) k).2 = k' at *
    have cn : c < S.length := by
      unfold nwL at p1
      split at p1
      · exact List.mem_range.1 p1
      · exact os.lt _ _ p1
    have nc : nwL S (c : Int) = S.getD c [] := by
      unfold nwL
      rw [if_neg (by omega), Int.toNat_natCast]
    have ih' := fun z' H' nv' => ih (c : Int) k' z' (L ++ [.str (stW (R.getD c []))]) H' nv' (by rw [List.length_append, List.length_singleton]; omega) (by omega) (.inr ⟨c, rfl, cn⟩) (by omega) (fun j' e => by
      subst e
      rw [nc]; exact p2)
    rw [nc, List.append_assoc] at ih'
    have step : Tr tbl J (.trim [[false, false], [true, true, false], [false, false, true], [false, false, false, false], [true, false, false, false], [false, true, false, false]] c32_b1) (fun s h => h = H ∧ s.get [false, false] = G k ∧ s.get [true, true, false] = .ptr p 0 3 ∧ s.get [false, false, true] = .slice bo 0 N N ∧ s.get [false, false, false, false] = z ∧ s.get [true, false, false, false] = G now ∧ s.get [false, true, false, false] = G (((j + 1 : Nat) : Int) - 1)) .normal (fun s h => ∃ z', NV Hb h z' (L ++ [.str (stW (R.getD c []))]) ∧ s.get [false, false] = G k' ∧ s.get [true, true, false] = .ptr p 0 3 ∧ s.get [false, false, true] = .slice bo 0 N N ∧ s.get [false, false, false, false] = z' ∧ s.get [true, false, false, false] = G c ∧ s.get [false, true, false, false] = G ((j : Int) - 1)) := by
      clear ih ih' lf rx os hs tb bd hs0 fs hk2 fp it hc hk' nv gT gr
      rw [show ((j + 1 : Nat) : Int) - 1 = (j : Int) by omega]
      generalize L ++ [AV.str (stW (R.getD c []))] = L2 at *
      generalize S.length = n at *
      refine Tr.w fun s1 H1 hp _ kR => W.trim ?_
      obtain ⟨rfl, q⟩ := hp
      refine W.assoc ?_
      refine W.seq (W.chunk ?_)
      simp (disch := first|omega|exact zE rfl|exact zO|exact zL rfl) [c32_o15, zG, q]
      refine W.seq (W.chunk ?_)
      simp (disch := first|omega|exact zE rfl|exact zO|exact zL rfl) [zG, q]
      refine W.seq (W.block ?_)
      refine W.seq (W.chunk ?_)
      simp (disch := first|omega|exact zE rfl|exact zO|exact zL rfl) [c32_o16, zG, q, f1']
      refine W.block ?_
      refine W.use (l0) (by simp (disch := first|omega|exact zE rfl|exact zO|exact zL rfl) [zG, q]) fun s1 H1 hp => ?_
      obtain ⟨z2, nv2, q⟩ := hp
      try simp only [zW, if_true]
      refine W.chunk ?_
      simp (disch := first|omega|exact zE rfl|exact zO|exact zL rfl) [c32_o25, zG, q]
      exact kR _ _ ⟨_, nv2, by simp [T.get, q]⟩
    refine Tr.next step (fun s h hp => ?_)
    obtain ⟨z', nv', q⟩ := hp
    exact ih' z' h nv' s h ⟨rfl, q⟩
end
def AR.itR (a : AR) (m : Int) (n k : Nat) : List (List Nat) := (itm (a.steps m) n (List.range (a.steps m).length) k).map fun c => (a.rows m).getD c []
def Post32 (a : AR) (m n k : Int) (h : Heap) (v : AV) (own : List AObj) : Prop :=
  (a.gd m n 0 = false → v = .tup [.nils, G 2] ∧ own = []) ∧
  (a.gd m n 0 = true → okC (a.steps m) n.toNat = false → v = .tup [.nils, G 5] ∧ own = []) ∧
  (a.gd m n 0 = true → okC (a.steps m) n.toNat = true → ¬ (0 ≤ k ∧ k < a.cn m n.toNat) → v = .tup [.nils, G 2] ∧ own = []) ∧
  (a.gd m n 0 = true → okC (a.steps m) n.toNat = true → (0 ≤ k ∧ k < a.cn m n.toNat) → ∃ x, v = .tup [x, G 0] ∧ RV (h.plus own) x (wsL (a.itR m n.toNat k.toNat)))
section
variable {a : AR} {m n k : Int}
theorem c32_0 (J : CallF) (k57 : KR 57 J) (k60 : K60 J) (hJ : ∀ a h, J 32 a h = none) (h : Heap) (o : OkR a h) (g : a.gd m n 0 = false) : CallsTo tbl J 32 [a.v, G m, G n, G k] h (.tup [.nils, G 2], [], false) := by
  refine Tr.fnv (cf := c32) (e := .ret) (s := T.set (T.set (T.set (T.set .leaf [] a.v) [false] (G m)) [true] (G n)) [false, false] (G k)) (by decide) rfl (hJ _ _) rfl rfl rfl (by simp) ?_
  obtain ⟨k1, k2⟩ := rs_pre (m := m) J k57 k60 o
  have k3 := k60 n 0 40 ⟨h.get, h.size, [.cells 0 3 [G a.q, a.x, a.y]]⟩
  refine Tr.post (Q := (fun s h => s.get [true, false, false] = .nils ∧ s.get [false, true, false] = G 2)) (fun s h q => by simp [c32, q]) ?_
  unfold AR.gd AR.rm at g
  generalize a.ru = b1 at *
  generalize decide (1 ≤ m ∧ m ≤ 5) = b2 at *
  generalize decide (0 ≤ n ∧ n ≤ 40) = b3 at *
  refine Tr.w fun s1 H1 hp _ kR => ?_
  obtain ⟨rfl, rfl⟩ := hp
  have q : True := trivial
  cases b1
  · refine W.seq (W.chunk ?_)
    simp (disch := first|omega|exact zE rfl|exact zO|exact zL rfl) [c32_o0, size_mk, get_mk_lt, get_mk_ge, frameOf, Eff.app, Heap.setOwn, q]
    refine W.assoc ?_
    refine W.seq (W.chunk ?_)
    simp (disch := first|omega|exact zE rfl|exact zO|exact zL rfl) [c32_o1, size_mk, get_mk_lt, get_mk_ge, frameOf, Eff.app, Heap.setOwn, q, k1, k2, k3]
    refine W.seq (W.chunk ?_)
    simp (disch := first|omega|exact zE rfl|exact zO|exact zL rfl) [c32_o2, size_mk, get_mk_lt, get_mk_ge, frameOf, Eff.app, Heap.setOwn, q]
    exact kR _ _ (by simp [T.get])
  · cases b2
    · refine W.seq (W.chunk ?_)
      simp (disch := first|omega|exact zE rfl|exact zO|exact zL rfl) [c32_o0, size_mk, get_mk_lt, get_mk_ge, frameOf, Eff.app, Heap.setOwn, q]
      refine W.assoc ?_
      refine W.seq (W.chunk ?_)
      simp (disch := first|omega|exact zE rfl|exact zO|exact zL rfl) [c32_o1, size_mk, get_mk_lt, get_mk_ge, frameOf, Eff.app, Heap.setOwn, q, k1, k2, k3]
      refine W.seq (W.chunk ?_)
      simp (disch := first|omega|exact zE rfl|exact zO|exact zL rfl) [c32_o2, size_mk, get_mk_lt, get_mk_ge, frameOf, Eff.app, Heap.setOwn, q]
      exact kR _ _ (by simp [T.get])
    · have : b3 = false := by simpa using g
      subst this
      refine W.seq (W.chunk ?_)
      simp (disch := first|omega|exact zE rfl|exact zO|exact zL rfl) [c32_o0, size_mk, get_mk_lt, get_mk_ge, frameOf, Eff.app, Heap.setOwn, q]
      refine W.assoc ?_
      refine W.seq (W.chunk ?_)
      simp (disch := first|omega|exact zE rfl|exact zO|exact zL rfl) [c32_o1, size_mk, get_mk_lt, get_mk_ge, frameOf, Eff.app, Heap.setOwn, q, k1, k2, k3]
      refine W.seq (W.chunk ?_)
      simp (disch := first|omega|exact zE rfl|exact zO|exact zL rfl) [c32_o2, size_mk, get_mk_lt, get_mk_ge, frameOf, Eff.app, Heap.setOwn, q]
      exact kR _ _ (by simp [T.get])
theorem c32_1 (J : CallF) (k57 : KR 57 J) (k60 : K60 J) (k61 : K61 J) (k62 : K62 J) (hJ : ∀ a h, J 32 a h = none) (h : Heap) (o : OkR a h) (g : a.gd m n 0 = true) (hc : okC (a.steps m) n.toNat = false) : CallsTo tbl J 32 [a.v, G m, G n, G k] h (.tup [.nils, G 5], [], false) := by
  unfold AR.gd at g
  simp only [Bool.and_eq_true, decide_eq_true_eq] at g
  obtain ⟨r, n1, n2⟩ := g
  obtain ⟨r1, r2⟩ := a.rm_iff r
  obtain ⟨os, s243, _⟩ := AR.steps_ok r
  obtain ⟨k1, k2⟩ := rs_pre (m := m) J k57 k60 o
  have k3 := k60 n 0 40 ⟨h.get, h.size, [.cells 0 3 [G a.q, a.x, a.y]]⟩
  rw [r1] at k1
  rw [decide_eq_true r2] at k2
  rw [decide_eq_true ⟨n1, n2⟩] at k3
  obtain ⟨Hs, hHs⟩ : ∃ H, (⟨h.get, h.size, [.cells 0 3 [G a.q, a.x, a.y]]⟩ : Heap) = H := ⟨_, rfl⟩
  rw [hHs] at k1 k2 k3
  have oH : OkR a Hs := by rw [← hHs]; exact o.lo _
  have gS : Hs.get h.size = .cells 0 3 [G a.q, a.x, a.y] := by rw [← hHs, get_mk_ge _ _ _ _ (Nat.le_refl _), Nat.sub_self]; rfl
  obtain ⟨p, own, e61, lm⟩ := k61 Hs a.g m.toNat (oH.g r1) (by omega)
  rw [a.gv r1, show ((m.toNat : Nat) : Int) = m by omega] at e61
  obtain ⟨Z, hZ⟩ : ∃ Z, Hs.plus own = Z := ⟨_, rfl⟩
  rw [hZ] at lm
  have lf : LF Z p (a.steps m) := lm.lf
  obtain ⟨v, own2, e62, l62⟩ := k62 Z ⟨p, n.toNat, a.steps m⟩ ⟨os, s243, lf, by show n.toNat ≤ 40; omega⟩
  have nn : ((n.toNat : Nat) : Int) = n := by omega
  simp only [nn] at e62
  obtain ⟨rfl, rfl⟩ := l62.2 hc
  refine Tr.fnv (cf := c32) (e := .ret) (s := T.set (T.set (T.set (T.set .leaf [] a.v) [false] (G m)) [true] (G n)) [false, false] (G k)) (by decide) rfl (hJ _ _) rfl rfl rfl (by simp) ?_
  refine Tr.post (Q := (fun s h => s.get [true, false, false] = .nils ∧ s.get [false, true, false] = G 5)) (fun s h q => by simp [c32, q]) ?_
  clear lf lm os oH o l62
  refine Tr.w fun s1 H1 hp _ kR => ?_
  obtain ⟨rfl, rfl⟩ := hp
  have q : True := trivial
  refine W.seq (W.chunk ?_)
  simp (disch := first|omega|exact zE rfl|exact zO|exact zL rfl) [c32_o0, size_mk, get_mk_lt, get_mk_ge, frameOf, Eff.app, Heap.setOwn, q, hHs]
  refine W.assoc ?_
  refine W.seq (W.chunk ?_)
  simp (disch := first|omega|exact zE rfl|exact zO|exact zL rfl) [c32_o1, zG, q, k1, k2, k3, gS]
  refine W.seq (W.chunk ?_)
  simp (disch := first|omega|exact zE rfl|exact zO|exact zL rfl) [c32_o2, size_mk, get_mk_lt, get_mk_ge, frameOf, Eff.app, Heap.setOwn, q]
  refine W.seq (W.chunk ?_)
  simp (disch := first|omega|exact zE rfl|exact zO|exact zL rfl) [c32_o3, zG, q, gS, e61, app_if, app_if', hZ]
  refine W.seq (W.chunk ?_)
  simp (disch := first|omega|exact zE rfl|exact zO|exact zL rfl) [c32_o4, zG, q, e62]
  refine W.assoc ?_
  refine W.seq (W.chunk ?_)
  simp (disch := first|omega|exact zE rfl|exact zO|exact zL rfl) [c32_o5, size_mk, get_mk_lt, get_mk_ge, frameOf, Eff.app, Heap.setOwn, q]
  refine W.seq (W.chunk ?_)
  simp (disch := first|omega|exact zE rfl|exact zO|exact zL rfl) [c32_o6, size_mk, get_mk_lt, get_mk_ge, frameOf, Eff.app, Heap.setOwn, q]
  exact kR _ _ (by simp [T.get])
theorem c32_n0 (J : CallF) (k57 : KR 57 J) (k60 : K60 J) (k61 : K61 J) (k62 : K62 J) (k63 : K63 J) (hJ : ∀ a h, J 32 a h = none) (h : Heap) (o : OkR a h) (g : a.gd m 0 0 = true) : CallsTo tbl J 32 [a.v, G m, G 0, G k] h (.tup [.nils, G (if 0 ≤ k ∧ k ≤ 0 then 0 else 2)], [], false) := by
  unfold AR.gd at g
  simp only [Bool.and_eq_true, decide_eq_true_eq] at g
  obtain ⟨r, n1, n2⟩ := g
  obtain ⟨r1, r2⟩ := a.rm_iff r
  obtain ⟨os, s243, _⟩ := AR.steps_ok r
  obtain ⟨k1, k2⟩ := rs_pre (m := m) J k57 k60 o
  have k3 := k60 0 0 40 ⟨h.get, h.size, [.cells 0 3 [G a.q, a.x, a.y]]⟩
  rw [r1] at k1
  rw [decide_eq_true r2] at k2
  rw [decide_eq_true ⟨n1, n2⟩] at k3
  obtain ⟨Hs, hHs⟩ : ∃ H, (⟨h.get, h.size, [.cells 0 3 [G a.q, a.x, a.y]]⟩ : Heap) = H := ⟨_, rfl⟩
  rw [hHs] at k1 k2 k3
  have oH : OkR a Hs := by rw [← hHs]; exact o.lo _
  have gS : Hs.get h.size = .cells 0 3 [G a.q, a.x, a.y] := by rw [← hHs, get_mk_ge _ _ _ _ (Nat.le_refl _), Nat.sub_self]; rfl
  obtain ⟨p, own, e61, lm⟩ := k61 Hs a.g m.toNat (oH.g r1) (by omega)
  rw [a.gv r1, show ((m.toNat : Nat) : Int) = m by omega] at e61
  obtain ⟨Z, hZ⟩ : ∃ Z, Hs.plus own = Z := ⟨_, rfl⟩
  rw [hZ] at lm
  have lf : LF Z p (a.steps m) := lm.lf
  obtain ⟨v, own2, e62, l62⟩ := k62 Z ⟨p, 0, a.steps m⟩ ⟨os, s243, lf, by show 0 ≤ 40; omega⟩
  obtain ⟨x, rfl, tb⟩ := l62.1 rfl
  obtain ⟨Z2, hZ2⟩ : ∃ H, Z.plus own2 = H := ⟨_, rfl⟩
  rw [show (((⟨p, 0, a.steps m⟩ : A62).nn : Nat) : Int) = 0 from rfl] at e62
  simp only at e62
  obtain ⟨Z3, hZ3⟩ : ∃ H, Z2.plus [.cells 1 1 [G 1]] = H := ⟨_, rfl⟩
  obtain ⟨Z4, hZ4⟩ : ∃ H, Z3.plus [.cells 1 1 [.slice Z2.size 0 1 1]] = H := ⟨_, rfl⟩
  have g3 : Z3.get Z2.size = .cells 1 1 [G 1] := by rw [← hZ3]; exact plus_at0 _ _ _ _ rfl
  have g4 : Z4.get Z3.size = .cells 1 1 [.slice Z2.size 0 1 1] := by rw [← hZ4]; exact plus_at0 _ _ _ _ rfl
  have k34 : Kp (fun _ => False) Z3 Z4 := by rw [← hZ4]; exact Kp.plus _ _
  have f63 := k63 Z4 (.slice Z2.size 0 1 1) [1] (.inr ⟨_, _, rfl, k34.at g3 (by simp) id⟩) (by simp) (by simp)
  rw [show tot [1] = .tup [G 1, .bool true] from rfl] at f63
  have k4 := k60 k 0 0 Z4
  refine Tr.fnv (cf := c32) (e := .ret) (s := T.set (T.set (T.set (T.set .leaf [] a.v) [false] (G m)) [true] (G 0)) [false, false] (G k)) (by decide) rfl (hJ _ _) rfl rfl rfl (by simp) ?_
  refine Tr.post (Q := (fun s h => s.get [true, false, false] = .nils ∧ s.get [false, true, false] = G (if 0 ≤ k ∧ k ≤ 0 then 0 else 2))) (fun s h q => by simp [c32, q]) ?_
  clear lf lm os oH o l62 tb k34
  by_cases hk : 0 ≤ k ∧ k ≤ 0
  · rw [if_pos hk]
    rw [decide_eq_true hk] at k4
    have l1 : Tr tbl J c32_l1 (fun s h => h = Z4 ∧ s.get [false, false] = G k ∧ s.get [true, true, false] = .ptr p 0 3 ∧ s.get [false, false, true] = .slice Z3.size 0 1 1 ∧ s.get [false, false, false, false] = .nils ∧ s.get [true, false, false, false] = G (-1) ∧ s.get [false, true, false, false] = G (-1)) (.exit 0) (fun s h => h = Z4 ∧ s.get [false, false, false, false] = .nils) := by
      refine Tr.out ?_ (by simp)
      refine Tr.w fun s1 H1 hp _ kR => W.trim ?_
      obtain ⟨rfl, q⟩ := hp
      refine W.assoc ?_
      refine W.seq (W.chunk ?_)
      simp (disch := first|omega|exact zE rfl|exact zO|exact zL rfl) [c32_o15, zG, q]
      refine W.seq (W.chunk ?_)
      simp (disch := first|omega|exact zE rfl|exact zO|exact zL rfl) [zG, q]
      exact kR _ _ (by simp [T.get, q])
    refine Tr.w fun s1 H1 hp _ kR => ?_
    obtain ⟨rfl, rfl⟩ := hp
    have q : True := trivial
    refine W.seq (W.chunk ?_)
    simp (disch := first|omega|exact zE rfl|exact zO|exact zL rfl) [c32_o0, size_mk, get_mk_lt, get_mk_ge, frameOf, Eff.app, Heap.setOwn, q, hHs]
    refine W.assoc ?_
    refine W.seq (W.chunk ?_)
    simp (disch := first|omega|exact zE rfl|exact zO|exact zL rfl) [c32_o1, zG, q, k1, k2, k3, gS]
    refine W.seq (W.chunk ?_)
    simp (disch := first|omega|exact zE rfl|exact zO|exact zL rfl) [c32_o2, zG, q]
    refine W.seq (W.chunk ?_)
    simp (disch := first|omega|exact zE rfl|exact zO|exact zL rfl) [c32_o3, zG, q, gS, e61, app_if, app_if', hZ]
    refine W.seq (W.chunk ?_)
    simp (disch := first|omega|exact zE rfl|exact zO|exact zL rfl) [c32_o4, zG, q, e62, app_if, app_if', hZ2]
    refine W.assoc ?_
    refine W.seq (W.chunk ?_)
    simp (disch := first|omega|exact zE rfl|exact zO|exact zL rfl) [c32_o5, zG, q]
    refine W.seq (W.chunk ?_)
    simp (disch := first|omega|exact zE rfl|exact zO|exact zL rfl) [c32_o6, zG, q]
    refine W.assoc ?_
    refine W.seq (W.chunk ?_)
    simp (disch := first|omega|exact zE rfl|exact zO|exact zL rfl) [c32_o7, zG, q]
    refine W.seq (W.chunk ?_)
    simp (disch := first|omega|exact zE rfl|exact zO|exact zL rfl) [c32_o8, zG, q, hZ3, hZ4]
    refine W.assoc ?_
    refine W.seq (W.chunk ?_)
    simp (disch := first|omega|exact zE rfl|exact zO|exact zL rfl) [c32_o9, zG, q, g4, f63]
    refine W.assoc ?_
    refine W.seq (W.chunk ?_)
    simp (disch := first|omega|exact zE rfl|exact zO|exact zL rfl) [c32_o10, zG, q, k4]
    refine W.seq (W.chunk ?_)
    simp (disch := first|omega|exact zE rfl|exact zO|exact zL rfl) [c32_o11, zG, q]
    refine W.seq (W.chunk ?_)
    simp (disch := first|omega|exact zE rfl|exact zO|exact zL rfl) [c32_o12, zG, q]
    refine W.seq (W.chunk ?_)
    simp (disch := first|omega|exact zE rfl|exact zO|exact zL rfl) [c32_o13, zG, q]
    refine W.assoc ?_
    refine W.seq (W.chunk ?_)
    simp (disch := first|omega|exact zE rfl|exact zO|exact zL rfl) [c32_o14, zG, q]
    refine W.seq (W.block ?_)
    refine W.use (l1) (by simp (disch := first|omega|exact zE rfl|exact zO|exact zL rfl) [zG, q]) fun s1 H1 hp => ?_
    obtain ⟨rfl, q⟩ := hp
    try simp only [zW, if_true]
    refine W.seq (W.chunk ?_)
    simp (disch := first|omega|exact zE rfl|exact zO|exact zL rfl) [c32_o26, zG, q]
    refine W.ret ?_
    try simp only [zW, if_true]
    exact kR _ _ (by simp [T.get, q])
  · rw [if_neg hk]
    rw [decide_eq_false hk] at k4
    refine Tr.w fun s1 H1 hp _ kR => ?_
    obtain ⟨rfl, rfl⟩ := hp
    have q : True := trivial
    refine W.seq (W.chunk ?_)
    simp (disch := first|omega|exact zE rfl|exact zO|exact zL rfl) [c32_o0, size_mk, get_mk_lt, get_mk_ge, frameOf, Eff.app, Heap.setOwn, q, hHs]
    refine W.assoc ?_
    refine W.seq (W.chunk ?_)
    simp (disch := first|omega|exact zE rfl|exact zO|exact zL rfl) [c32_o1, zG, q, k1, k2, k3, gS]
    refine W.seq (W.chunk ?_)
    simp (disch := first|omega|exact zE rfl|exact zO|exact zL rfl) [c32_o2, zG, q]
    refine W.seq (W.chunk ?_)
    simp (disch := first|omega|exact zE rfl|exact zO|exact zL rfl) [c32_o3, zG, q, gS, e61, app_if, app_if', hZ]
    refine W.seq (W.chunk ?_)
    simp (disch := first|omega|exact zE rfl|exact zO|exact zL rfl) [c32_o4, zG, q, e62, app_if, app_if', hZ2]
    refine W.assoc ?_
    refine W.seq (W.chunk ?_)
    simp (disch := first|omega|exact zE rfl|exact zO|exact zL rfl) [c32_o5, zG, q]
    refine W.seq (W.chunk ?_)
    simp (disch := first|omega|exact zE rfl|exact zO|exact zL rfl) [c32_o6, zG, q]
    refine W.assoc ?_
    refine W.seq (W.chunk ?_)
    simp (disch := first|omega|exact zE rfl|exact zO|exact zL rfl) [c32_o7, zG, q]
    refine W.seq (W.chunk ?_)
    simp (disch := first|omega|exact zE rfl|exact zO|exact zL rfl) [c32_o8, zG, q, hZ3, hZ4]
    refine W.assoc ?_
    refine W.seq (W.chunk ?_)
    simp (disch := first|omega|exact zE rfl|exact zO|exact zL rfl) [c32_o9, zG, q, g4, f63]
    refine W.assoc ?_
    refine W.seq (W.chunk ?_)
    simp (disch := first|omega|exact zE rfl|exact zO|exact zL rfl) [c32_o10, zG, q, k4]
    refine W.seq (W.chunk ?_)
    simp (disch := first|omega|exact zE rfl|exact zO|exact zL rfl) [c32_o11, zG, q]
    exact kR _ _ (by simp [T.get])
theorem c32_2 (J : CallF) (k57 : KR 57 J) (k60 : K60 J) (k61 : K61 J) (k62 : K62 J) (k63 : K63 J) (k70 : K70 J) (hJ : ∀ a h, J 32 a h = none) (h : Heap) (o : OkR a h) {N : Nat} (g : a.gd m (N + 1 : Nat) 0 = true) (hc : okC (a.steps m) (N + 1) = true) :
    (¬ (0 ≤ k ∧ k < (rowC (a.steps m) N).sum) → CallsTo tbl J 32 [a.v, G m, G (N + 1 : Nat), G k] h (.tup [.nils, G 2], [], false)) ∧
    (0 ≤ k ∧ k < (rowC (a.steps m) N).sum → ∃ v own, CallsTo tbl J 32 [a.v, G m, G (N + 1 : Nat), G k] h (v, own, false) ∧ ∃ x, v = .tup [x, G 0] ∧ RV (h.plus own) x (wsL (a.itR m (N + 1) k.toNat))) := by
  unfold AR.gd at g
  simp only [Bool.and_eq_true, decide_eq_true_eq] at g
  obtain ⟨r, n1, n2⟩ := g
  obtain ⟨r1, r2⟩ := a.rm_iff r
  obtain ⟨os, s243, sr⟩ := AR.steps_ok r
  obtain ⟨k1, k2⟩ := rs_pre (m := m) J k57 k60 o
  have k3 := k60 (N + 1 : Nat) 0 40 ⟨h.get, h.size, [.cells 0 3 [G a.q, a.x, a.y]]⟩
  rw [r1] at k1
  rw [decide_eq_true r2] at k2
  rw [decide_eq_true ⟨n1, n2⟩] at k3
  obtain ⟨Hs, hHs⟩ : ∃ H, (⟨h.get, h.size, [.cells 0 3 [G a.q, a.x, a.y]]⟩ : Heap) = H := ⟨_, rfl⟩
  have kHs : Kp (fun _ => False) (frameOf h) Hs := by rw [← hHs]; exact Kp.plus (frameOf h) [.cells 0 3 [G a.q, a.x, a.y]]
  rw [hHs] at k1 k2 k3
  have oH : OkR a Hs := by rw [← hHs]; exact o.lo _
  have gS : Hs.get h.size = .cells 0 3 [G a.q, a.x, a.y] := by rw [← hHs, get_mk_ge _ _ _ _ (Nat.le_refl _), Nat.sub_self]; rfl
  obtain ⟨p, own, e61, lm⟩ := k61 Hs a.g m.toNat (oH.g r1) (by omega)
  rw [a.gv r1, show ((m.toNat : Nat) : Int) = m by omega] at e61
  obtain ⟨Z, hZ⟩ : ∃ Z, Hs.plus own = Z := ⟨_, rfl⟩
  have kZ : Kp (fun _ => False) Hs Z := by rw [← hZ]; exact Kp.plus _ _
  rw [hZ] at lm
  have lf : LF Z p (a.steps m) := lm.lf
  obtain ⟨v, own2, e62, l62⟩ := k62 Z ⟨p, N + 1, a.steps m⟩ ⟨os, s243, lf, by show N + 1 ≤ 40; omega⟩
  simp only at e62
  obtain ⟨x, rfl, tb⟩ := l62.1 hc
  obtain ⟨Z2, hZ2⟩ : ∃ H, Z.plus own2 = H := ⟨_, rfl⟩
  have kZ2 : Kp (fun _ => False) Z Z2 := by rw [← hZ2]; exact Kp.plus _ _
  rw [hZ2] at tb
  simp only at tb
  obtain ⟨bo, ros, rfl, e2, e3, e4⟩ := tb.sl (i := 0) (by rw [rowsC_len]; omega)
  rw [rowsC_len] at e2 e3 e62
  have tbl' : ∀ j, j < N + 1 → ∃ br, ros[j]? = some (.slice br 0 (a.steps m).length (a.steps m).length) ∧ Z2.get br = .cells 1 (a.steps m).length (gn (rowC (a.steps m) j)) := fun j hj => by
    obtain ⟨br, e5, e6⟩ := e4 j _ (rowsC_at _ hj)
    rw [gn_len, rowC_len] at e5 e6
    exact ⟨br, e5, e6⟩
  obtain ⟨br, e5, e6⟩ := tbl' N (by omega)
  have e5' := getI e5
  have okk := okC_iff.1 hc N (by omega)
  have f63 := k63 Z2 (.slice br 0 (a.steps m).length (a.steps m).length) (rowC (a.steps m) N) (.inr ⟨br, _, by rw [gn_len, rowC_len], e6⟩) (by rw [rowC_len]; omega) (row_le (lvlB_of okk))
  unfold tot at f63
  rw [if_pos okk] at f63
  have k4 := k60 k 0 (((rowC (a.steps m) N).sum : Int) - 1) Z2
  have nN : ((N + 1 : Nat) : Int) = (N : Int) + 1 := by omega
  constructor
  · intro hk
    rw [decide_eq_false (by omega)] at k4
    rw [nN] at k3 e62
    rw [nN]
    refine Tr.fnv (cf := c32) (e := .ret) (s := T.set (T.set (T.set (T.set .leaf [] a.v) [false] (G m)) [true] (G ((N : Int) + 1))) [false, false] (G k)) (by decide) rfl (hJ _ _) rfl rfl rfl (by simp) ?_
    refine Tr.post (Q := (fun s h => s.get [true, false, false] = .nils ∧ s.get [false, true, false] = G 2)) (fun s h q => by simp [c32, q]) ?_
    clear lf lm os oH o l62 tb e4 e6 hc kHs kZ kZ2 tbl' hk
    generalize (rowC (a.steps m) N).sum = sm at *
    generalize (a.steps m).length = ln at *
    refine Tr.w fun s1 H1 hp _ kR => ?_
    obtain ⟨rfl, rfl⟩ := hp
    have q : True := trivial
    refine W.seq (W.chunk ?_)
    simp (disch := first|omega|exact zE rfl|exact zO|exact zL rfl) [c32_o0, size_mk, get_mk_lt, get_mk_ge, frameOf, Eff.app, Heap.setOwn, q, hHs]
    refine W.assoc ?_
    refine W.seq (W.chunk ?_)
    simp (disch := first|omega|exact zE rfl|exact zO|exact zL rfl) [c32_o1, zG, q, k1, k2, k3, gS]
    refine W.seq (W.chunk ?_)
    simp (disch := first|omega|exact zE rfl|exact zO|exact zL rfl) [c32_o2, zG, q]
    refine W.seq (W.chunk ?_)
    simp (disch := first|omega|exact zE rfl|exact zO|exact zL rfl) [c32_o3, zG, q, gS, e61, app_if, app_if', hZ]
    refine W.seq (W.chunk ?_)
    simp (disch := first|omega|exact zE rfl|exact zO|exact zL rfl) [c32_o4, zG, q, e62, app_if, app_if', hZ2]
    refine W.assoc ?_
    refine W.seq (W.chunk ?_)
    simp (disch := first|omega|exact zE rfl|exact zO|exact zL rfl) [c32_o5, zG, q]
    refine W.seq (W.chunk ?_)
    simp (disch := first|omega|exact zE rfl|exact zO|exact zL rfl) [c32_o6, zG, q]
    refine W.assoc ?_
    refine W.seq (W.chunk ?_)
    simp (disch := first|omega|exact zE rfl|exact zO|exact zL rfl) [c32_o7, zG, q]
    refine W.seq (W.chunk ?_)
    simp (disch := first|omega|exact zE rfl|exact zO|exact zL rfl) [c32_o8, zG, q]
    refine W.assoc ?_
    refine W.seq (W.chunk ?_)
    simp (disch := first|omega|exact zE rfl|exact zO|exact zL rfl) [c32_o9, zG, q, e2, e5, e5', e3, f63]
    refine W.assoc ?_
    refine W.seq (W.chunk ?_)
    simp (disch := first|omega|exact zE rfl|exact zO|exact zL rfl) [c32_o10, zG, q, k4]
    refine W.seq (W.chunk ?_)
    simp (disch := first|omega|exact zE rfl|exact zO|exact zL rfl) [c32_o11, zG, q]
    exact kR _ _ (by simp [T.get])
  · intro hk
    rw [decide_eq_true (by omega)] at k4
    obtain ⟨K, hK⟩ : ∃ K : Nat, k = K := ⟨k.toNat, by omega⟩
    subst hK
    obtain ⟨x0, mb, nb, rs, f1, rx, _⟩ := lm
    have bd : ∀ j, j < N + 1 → ∀ i, i < (a.steps m).length → cnt (a.steps m) j i ≤ 1152921504606846976 := fun j hj i hi => Nat.le_trans (cnt_le _ j hi) (okC_iff.1 hc j hj)
    have hs : Srt (a.steps m) := srt_st _ _
    have l1 := c32_l1_ok (S := a.steps m) (R := a.rows m) (N := N + 1) (p := p) J k70 (lf.kp kZ2) (kZ2.at f1 (by simp) id) (rx.kp kZ2 (fun _ _ => id)) sr.symm os hs e2 e3 tbl' (by omega) bd (N + 1) (-1) K .nils [] Z2 (NV.nil Z2) (by simp; omega) (by omega) (.inl rfl) (by omega) (fun j' e => by
      obtain rfl : N = j' := by omega
      show K < ((List.range (a.steps m).length).map (cnt (a.steps m) N)).sum
      have : ((List.range (a.steps m).length).map (cnt (a.steps m) N)).sum = (rowC (a.steps m) N).sum := rfl
      omega)
    rw [List.nil_append] at l1
    have it : (itm (a.steps m) (N + 1) (nwL (a.steps m) (-1)) K).map (fun c => (a.rows m).getD c []) = a.itR m (N + 1) K := rfl
    rw [it] at l1
    rw [Int.toNat_natCast]
    have k0 := (kHs.trans kZ).trans kZ2
    rw [nN, show (N : Int) + 1 - 1 = N by omega] at l1
    rw [nN] at k3 e62
    rw [nN]
    refine Tr.fny (cf := c32) (e := .ret) (s := T.set (T.set (T.set (T.set .leaf [] a.v) [false] (G m)) [true] (G ((N : Int) + 1))) [false, false] (G K)) (by decide) rfl (hJ _ _) rfl rfl (by simp) ?_
    clear lf os oH o l62 tb e4 e6 hc kHs kZ kZ2 tbl' hk bd hs f1 rx it
    generalize a.itR m (N + 1) K = out at *
    generalize (rowC (a.steps m) N).sum = sm at *
    generalize (a.steps m).length = ln at *
    refine Tr.w fun s1 H1 hp _ kR => ?_
    obtain ⟨rfl, rfl⟩ := hp
    have q : True := trivial
    refine W.seq (W.chunk ?_)
    simp (disch := first|omega|exact zE rfl|exact zO|exact zL rfl) [c32_o0, size_mk, get_mk_lt, get_mk_ge, frameOf, Eff.app, Heap.setOwn, q, hHs]
    refine W.assoc ?_
    refine W.seq (W.chunk ?_)
    simp (disch := first|omega|exact zE rfl|exact zO|exact zL rfl) [c32_o1, zG, q, k1, k2, k3, gS]
    refine W.seq (W.chunk ?_)
    simp (disch := first|omega|exact zE rfl|exact zO|exact zL rfl) [c32_o2, zG, q]
    refine W.seq (W.chunk ?_)
    simp (disch := first|omega|exact zE rfl|exact zO|exact zL rfl) [c32_o3, zG, q, gS, e61, app_if, app_if', hZ]
    refine W.seq (W.chunk ?_)
    simp (disch := first|omega|exact zE rfl|exact zO|exact zL rfl) [c32_o4, zG, q, e62, app_if, app_if', hZ2]
    refine W.assoc ?_
    refine W.seq (W.chunk ?_)
    simp (disch := first|omega|exact zE rfl|exact zO|exact zL rfl) [c32_o5, zG, q]
    refine W.seq (W.chunk ?_)
    simp (disch := first|omega|exact zE rfl|exact zO|exact zL rfl) [c32_o6, zG, q]
    refine W.assoc ?_
    refine W.seq (W.chunk ?_)
    simp (disch := first|omega|exact zE rfl|exact zO|exact zL rfl) [c32_o7, zG, q]
    refine W.seq (W.chunk ?_)
    simp (disch := first|omega|exact zE rfl|exact zO|exact zL rfl) [c32_o8, zG, q]
    refine W.assoc ?_
    refine W.seq (W.chunk ?_)
    simp (disch := first|omega|exact zE rfl|exact zO|exact zL rfl) [c32_o9, zG, q, e2, e5, e5', e3, f63]
    refine W.assoc ?_
    refine W.seq (W.chunk ?_)
    simp (disch := first|omega|exact zE rfl|exact zO|exact zL rfl) [c32_o10, zG, q, k4]
    refine W.seq (W.chunk ?_)
    simp (disch := first|omega|exact zE rfl|exact zO|exact zL rfl) [c32_o11, zG, q]
    refine W.seq (W.chunk ?_)
    simp (disch := first|omega|exact zE rfl|exact zO|exact zL rfl) [c32_o12, zG, q]
    refine W.seq (W.chunk ?_)
    simp (disch := first|omega|exact zE rfl|exact zO|exact zL rfl) [c32_o13, zG, q]
    refine W.assoc ?_
    refine W.seq (W.chunk ?_)
    simp (disch := first|omega|exact zE rfl|exact zO|exact zL rfl) [c32_o14, zG, q]
    refine W.seq (W.block ?_)
    refine W.use (l1) (by simp (disch := first|omega|exact zE rfl|exact zO|exact zL rfl) [zG, q]) fun s1 H1 hp => ?_
    obtain ⟨z2, nv2, q⟩ := hp
    try simp only [zW, if_true]
    refine W.seq (W.chunk ?_)
    simp (disch := first|omega|exact zE rfl|exact zO|exact zL rfl) [c32_o26, zG, q]
    refine W.ret ?_
    try simp only [zW, if_true]
    refine kR _ _ ?_
    refine ⟨[z2, G 0], by simp [T.get, c32, evRess, evRes, q], z2, rfl, ?_⟩
    rw [show (one [z2, G 0]).flat = (one [z2]).flat from by simp [one, AV.flat, AV.flats]]
    exact nv2.rv.fr (k0.trans nv2.k)
end
structure ARk where
  a : AR
  m : Int
  n : Int
  k : Int
def Pre32 (b : ARk) (args : List AV) (h : Heap) : Prop := OkR b.a h ∧ args = [b.a.v, G b.m, G b.n, G b.k]
def Po32 (b : ARk) (h : Heap) (v : AV) (own : List AObj) : Prop := Post32 b.a b.m b.n b.k h v own
noncomputable def T50 : CallF := addK tbl T49 32 Pre32 Po32
theorem t50 : Sound Go.Proofs.Try.prog T50 := Sound.addK follows ok t49 (by decide) _ _
abbrev K32 (J : CallF) : Prop := ∀ (h : Heap) (a : AR) (m n k : Int), OkR a h → ∃ v own, J 32 [a.v, G m, G n, G k] h = some (v, own, false) ∧ Post32 a m n k h v own
theorem k57_49 : KR 57 T49 := fun h a o => by
  rw [show T49 57 [.agg [G a.q, a.x, a.y]] h = T10 57 [.agg [G a.q, a.x, a.y]] h from by simp (disch := decide) only [T11, T12, T13, T14, T15, T16, T17, T18, T19, T20, T21, T22, T23, T24, T25, T26, T27, T28, T29, T30, T31, T32, T33, T34, T35, T36, T37, T38, T39, T40, T41, T42, T43, T44, T45, T46, T47, T48, T49, addI_ne, addX_ne, addV_ne, addK_ne]]; exact k57 h a o
theorem k60_49 : K60 T49 := fun n lo hi h => by
  simp (disch := decide) only [T1, T2, T3, T4, T5, T6, T7, T8, T9, T10, T11, T12, T13, T14, T15, T16, T17, T18, T19, T20, T21, T22, T23, T24, T25, T26, T27, T28, T29, T30, T31, T32, T33, T34, T35, T36, T37, T38, T39, T40, T41, T42, T43, T44, T45, T46, T47, T48, T49, addI_ne, addX_ne, addV_ne, addK_ne]
  exact k60 n lo hi h
theorem k61_49 : K61 T49 := fun h a m o m5 => by
  obtain ⟨p, own, e, l⟩ := k61 h a m o m5
  exact ⟨p, own, by rw [show T49 61 [a.v, G m] h = T18 61 [a.v, G m] h from by simp (disch := decide) only [T19, T20, T21, T22, T23, T24, T25, T26, T27, T28, T29, T30, T31, T32, T33, T34, T35, T36, T37, T38, T39, T40, T41, T42, T43, T44, T45, T46, T47, T48, T49, addI_ne, addX_ne, addV_ne, addK_ne]]; exact e, l⟩
theorem k62_49 : K62 T49 := fun h b o => by
  obtain ⟨v, own, e, l⟩ := k62 h b o
  exact ⟨v, own, by rw [show T49 62 [.ptr b.p 0 3, G b.nn] h = T38 62 [.ptr b.p 0 3, G b.nn] h from by simp (disch := decide) only [T39, T40, T41, T42, T43, T44, T45, T46, T47, T48, T49, addI_ne, addX_ne, addV_ne, addK_ne]]; exact e, l⟩
theorem k63_49 : K63 T49 := fun h x L h1 h2 h3 => by
  rw [show T49 63 [x, G 1152921504606846976] h = T37 63 [x, G 1152921504606846976] h from by simp (disch := decide) only [T38, T39, T40, T41, T42, T43, T44, T45, T46, T47, T48, T49, addI_ne, addX_ne, addV_ne, addK_ne]]; exact k63 h x L h1 h2 h3
theorem k70_49 : K70 T49 := fun h x v L h1 h2 => by
  rw [show T49 70 [x, G v] h = T43 70 [x, G v] h from by simp (disch := decide) only [T44, T45, T46, T47, T48, T49, addI_ne, addX_ne, addV_ne, addK_ne]]; exact k70 h x v L h1 h2
theorem k32 : K32 T50 := fun h a m n k o => by
  obtain ⟨v, own, e, l⟩ := addK_some (Pre := Pre32) (Post := Po32) (fun b args h hp => by
    obtain ⟨o, rfl⟩ := hp
    obtain ⟨a, m, n, k⟩ := b
    simp only at o ⊢
    unfold Po32 Post32
    simp only
    cases g : a.gd m n 0
    · exact ⟨_, _, c32_0 T49 k57_49 k60_49 (fun _ _ => by simp (disch := decide) only [T1, T2, T3, T4, T5, T6, T7, T8, T9, T10, T11, T12, T13, T14, T15, T16, T17, T18, T19, T20, T21, T22, T23, T24, T25, T26, T27, T28, T29, T30, T31, T32, T33, T34, T35, T36, T37, T38, T39, T40, T41, T42, T43, T44, T45, T46, T47, T48, T49, addI_ne, addX_ne, addV_ne, addK_ne]; rfl) h o g, fun _ => ⟨rfl, rfl⟩, fun h => by simp at h, fun h => by simp at h, fun h => by simp at h⟩
    · have g' := g
      unfold AR.gd at g'
      simp only [Bool.and_eq_true, decide_eq_true_eq] at g'
      cases hc : okC (a.steps m) n.toNat
      · exact ⟨_, _, c32_1 T49 k57_49 k60_49 k61_49 k62_49 (fun _ _ => by simp (disch := decide) only [T1, T2, T3, T4, T5, T6, T7, T8, T9, T10, T11, T12, T13, T14, T15, T16, T17, T18, T19, T20, T21, T22, T23, T24, T25, T26, T27, T28, T29, T30, T31, T32, T33, T34, T35, T36, T37, T38, T39, T40, T41, T42, T43, T44, T45, T46, T47, T48, T49, addI_ne, addX_ne, addV_ne, addK_ne]; rfl) h o g hc, fun h => by simp at h, fun _ _ => ⟨rfl, rfl⟩, fun _ h => by simp at h, fun _ h => by simp at h⟩
      · obtain ⟨N0, hN⟩ : ∃ N : Nat, n = N := ⟨n.toNat, by omega⟩
        subst hN
        rw [Int.toNat_natCast] at hc ⊢
        cases N0 with
        | zero =>
          have e := c32_n0 (k := k) T49 k57_49 k60_49 k61_49 k62_49 k63_49 (fun _ _ => by simp (disch := decide) only [T1, T2, T3, T4, T5, T6, T7, T8, T9, T10, T11, T12, T13, T14, T15, T16, T17, T18, T19, T20, T21, T22, T23, T24, T25, T26, T27, T28, T29, T30, T31, T32, T33, T34, T35, T36, T37, T38, T39, T40, T41, T42, T43, T44, T45, T46, T47, T48, T49, addI_ne, addX_ne, addV_ne, addK_ne]; rfl) h o g
          have cn : a.cn m 0 = 1 := rfl
          rw [cn]
          refine ⟨_, _, e, fun h => by simp at h, fun _ h => by simp at h, fun _ _ hk => ?_, fun _ _ hk => ?_⟩
          · rw [if_neg (by omega)]; exact ⟨rfl, rfl⟩
          · rw [if_pos (by omega)]; exact ⟨_, rfl, .inl ⟨rfl, rfl⟩⟩
        | succ N =>
          have e := c32_2 (k := k) T49 k57_49 k60_49 k61_49 k62_49 k63_49 k70_49 (fun _ _ => by simp (disch := decide) only [T1, T2, T3, T4, T5, T6, T7, T8, T9, T10, T11, T12, T13, T14, T15, T16, T17, T18, T19, T20, T21, T22, T23, T24, T25, T26, T27, T28, T29, T30, T31, T32, T33, T34, T35, T36, T37, T38, T39, T40, T41, T42, T43, T44, T45, T46, T47, T48, T49, addI_ne, addX_ne, addV_ne, addK_ne]; rfl) h o g hc
          have cn : a.cn m (N + 1) = (rowC (a.steps m) N).sum := by
            unfold AR.cn
            rw [if_neg (by omega), Nat.add_sub_cancel]
          rw [cn]
          by_cases hk : 0 ≤ k ∧ k < ((rowC (a.steps m) N).sum : Nat)
          · obtain ⟨v, own, e, l⟩ := e.2 hk
            exact ⟨v, own, e, fun h => by simp at h, fun _ h => by simp at h, fun _ _ h => absurd hk h, fun _ _ _ => l⟩
          · exact ⟨_, _, e.1 hk, fun h => by simp at h, fun _ h => by simp at h, fun _ _ _ => ⟨rfl, rfl⟩, fun _ _ h => absurd h hk⟩) ⟨a, m, n, k⟩ _ h ⟨o, rfl⟩
  exact ⟨v, own, e, l⟩
section
variable {S R : List (List Nat)} {p N : Nat}
theorem gn_range (i : Nat) : gn (List.range (i + 1)) = gn (List.range i) ++ [G i] := by simp [gn, List.range_succ]
theorem c34_l0_ok (J : CallF) {Hb : Heap} {x9 x10 x11 : AV} (hx : (x9 = .nils ∧ S.length = 0) ∨ ∃ b v, x9 = .slice b 0 S.length v) (os : OkS S) {k n : Int} :
    Tr tbl J c34_l0 (fun s h => ∃ y, NV Hb h y (gn (List.range 0)) ∧ s.get [true] = G n ∧ s.get [false, false] = G k ∧ s.get [false, true, false] = x9 ∧ s.get [true, true, false] = x10 ∧ s.get [false, false, true] = x11 ∧ s.get [true, false, true] = y ∧ s.get [false, true, true] = G ((0 : Nat) : Int)) (.exit 0)
      (fun s h => ∃ y, NV Hb h y (gn (List.range S.length)) ∧ s.get [true] = G n ∧ s.get [false, false] = G k ∧ s.get [false, true, false] = x9 ∧ s.get [true, true, false] = x10 ∧ s.get [false, false, true] = x11 ∧ s.get [true, false, true] = y) := by
  have n2 := os.n
  refine Tr.rounds (e := .exit 0) (P := fun i s h => ∃ y, NV Hb h y (gn (List.range i)) ∧ s.get [true] = G n ∧ s.get [false, false] = G k ∧ s.get [false, true, false] = x9 ∧ s.get [true, true, false] = x10 ∧ s.get [false, false, true] = x11 ∧ s.get [true, false, true] = y ∧ s.get [false, true, true] = G i) (M := S.length) (fun i hi => ?_) ?_ (by simp) 0 (by omega)
  · obtain ⟨b, v, rfl⟩ := hx.resolve_left (fun e => by omega)
    clear os hx
    generalize S.length = nS at *
    refine Tr.w fun s1 H1 hp _ kR => W.trim ?_
    obtain ⟨y, nv, q⟩ := hp
    obtain ⟨x1, e, H2, q1, q2, nv2, q4⟩ := nv.app H1.size 8 (G i) (by rw [gn_len, List.length_range]; omega)
    rw [← gn_range] at nv2
    clear nv
    refine W.assoc ?_
    refine W.seq (W.chunk ?_)
    simp (disch := first|omega|exact zE rfl|exact zO|exact zL rfl) [c34_o5, zG, q]
    refine W.seq (W.chunk ?_)
    simp (disch := first|omega|exact zE rfl|exact zO|exact zL rfl) [zG, q]
    refine W.seq (W.block ?_)
    refine W.chunk ?_
    simp (disch := first|omega|exact zE rfl|exact zO|exact zL rfl) [c34_o6, zG, q, q1, q2, app1_at, elems, rdOf]
    refine W.chunk ?_
    simp (disch := first|omega|exact zE rfl|exact zO|exact zL rfl) [c34_o7, zG, q]
    exact kR _ _ ⟨_, nv2, by simp [T.get, q]⟩
  · clear os
    generalize S.length = nS at *
    rcases hx with ⟨rfl, hz⟩ | ⟨b, v, rfl⟩
    all_goals
      refine Tr.w fun s1 H1 hp _ kR => W.trim ?_
      obtain ⟨y, nv, q⟩ := hp
      refine W.assoc ?_
      refine W.seq (W.chunk ?_)
      simp (disch := first|omega|exact zE rfl|exact zO|exact zL rfl) [c34_o5, zG, q]
      refine W.seq (W.chunk ?_)
      simp (disch := first|omega|exact zE rfl|exact zO|exact zL rfl) [zG, q]
      exact kR _ _ ⟨_, nv, by simp [T.get, q]⟩
theorem c34_l1_ok (J : CallF) {H : Heap} {x9 x10 y z : AV} {L : List Nat} (ry : RV H y (gn L)) (hL : L.length ≤ 1000) (hLt : ∀ c ∈ L, c < S.length) {bo br : Nat} {ros : List AV} (lo : ros.length = N) (g1 : H.get bo = .cells 1 N ros) {j : Nat} (er : ros[j]? = some (.slice br 0 S.length S.length)) (gr : H.get br = .cells 1 S.length (gn (rowC S j))) (hj : j < N) (h40 : N ≤ 40) (n2 : S.length ≤ 1000) (bd : ∀ i, i < S.length → cnt S j i ≤ 1152921504606846976) :
    ∀ d i k, i + d = L.length → k ≤ 1152921504606846976 → k < ((L.drop i).map (cnt S j)).sum →
    Tr tbl J c34_l1 (fun s h => h = H ∧ s.get [false, false] = G k ∧ s.get [false, true, false] = x9 ∧ s.get [true, true, false] = x10 ∧ s.get [false, false, true] = .slice bo 0 N N ∧ s.get [true, false, true] = y ∧ s.get [true, true, true] = z ∧ s.get [false, false, false, false] = G j ∧ s.get [true, false, false, false] = G i) (.exit 4)
      (fun s h => ∃ t : Nat, (h = H ∧ t < L.length ∧ L.getD t 0 = (pk (cnt S j) (L.drop i) k).1) ∧ s.get [false, false] = G (pk (cnt S j) (L.drop i) k).2 ∧ s.get [false, true, false] = x9 ∧ s.get [true, true, false] = x10 ∧ s.get [false, false, true] = .slice bo 0 N N ∧ s.get [true, false, true] = y ∧ s.get [true, true, true] = z ∧ s.get [false, false, false, false] = G j ∧ s.get [true, false, false, false] = G t) := by
  intro d
  induction d with
  | zero =>
    intro i k hi _ hk
    rw [List.drop_of_length_le (by omega)] at hk; simp at hk
  | succ d ih =>
    intro i k hi hk0 hk
    have hi' : i < L.length := by omega
    obtain ⟨by', vy, rfl, gy⟩ : ∃ b v, y = .slice b 0 L.length v ∧ H.get b = .cells 1 v (gn L) := by
      rcases ry with ⟨_, e⟩ | ⟨b, v, e, g⟩
      · have : (gn L).length = 0 := by rw [e]; rfl
        rw [gn_len] at this; omega
      · rw [gn_len] at e; exact ⟨b, v, e, g⟩
    have dr : L.drop i = L.getD i 0 :: L.drop (i + 1) := by
      rw [List.drop_eq_getElem_cons hi', List.getD_eq_getElem?_getD, List.getElem?_eq_getElem hi']; rfl
    have c1 := gn_at hi'
    have c1' := getI c1
    have lc := gn_len L
    have hc : L.getD i 0 < S.length := hLt _ (by
      rw [List.getD_eq_getElem?_getD, List.getElem?_eq_getElem hi']; exact List.getElem_mem _)
    have er' := getI er
    have e1 := gn_at (L := rowC S j) (i := L.getD i 0) (by rw [rowC_len]; exact hc)
    rw [rowC_at S j hc] at e1
    have e1' := getI e1
    have l1 : (gn (rowC S j)).length = S.length := by rw [gn_len, rowC_len]
    have bi := bd _ hc
    rw [dr] at hk ⊢
    rw [List.map_cons, List.sum_cons] at hk
    unfold pk
    have ihk := ih (i + 1) (k - cnt S j (L.getD i 0)) (by omega) (by omega)
    have lst : ∀ t, t = i → L.getD t 0 = L.getD i 0 := fun t e => by rw [e]
    clear ih bd hLt ry dr
    by_cases hlt : k < cnt S j (L.getD i 0)
    · rw [if_pos hlt]
      clear ihk
      refine Tr.out ?_ (by simp)
      generalize cnt S j (L.getD i 0) = w at *
      generalize hcc : L.getD i 0 = c at *
      generalize gn (rowC S j) = cs at *
      generalize gn L = ys at *
      generalize S.length = nS at *
      generalize hll : L.length = nL at *
      refine Tr.w fun s1 H1 hp _ kR => W.trim ?_
      obtain ⟨rfl, q⟩ := hp
      refine W.assoc ?_
      refine W.seq (W.chunk ?_)
      simp (disch := first|omega|exact zE rfl|exact zO|exact zL rfl) [-evDraw_c, c34_o12, zG, q, evDraw_0, g1, lo, er, er', gr, l1, e1, e1', gy, c1, c1', lc]
      refine W.seq (W.chunk ?_)
      simp (disch := first|omega|exact zE rfl|exact zO|exact zL rfl) [zG, q]
      exact kR _ _ ⟨i, ⟨rfl, hi', hcc⟩, by simp [T.get, q]⟩
    · rw [if_neg hlt]
      have ihk := ihk (by omega)
      have kk : ((k - cnt S j (L.getD i 0) : Nat) : Int) = (k : Int) - (cnt S j (L.getD i 0) : Int) := by omega
      rw [kk] at ihk
      have step : Tr tbl J (.trim [[false, false], [false, true, false], [true, true, false], [false, false, true], [true, false, true], [true, true, true], [false, false, false, false], [true, false, false, false]] c34_b1) (fun s h => h = H ∧ s.get [false, false] = G k ∧ s.get [false, true, false] = x9 ∧ s.get [true, true, false] = x10 ∧ s.get [false, false, true] = .slice bo 0 N N ∧ s.get [true, false, true] = .slice by' 0 L.length vy ∧ s.get [true, true, true] = z ∧ s.get [false, false, false, false] = G j ∧ s.get [true, false, false, false] = G i) .normal (fun s h => h = H ∧ s.get [false, false] = G ((k : Int) - (cnt S j (L.getD i 0) : Int)) ∧ s.get [false, true, false] = x9 ∧ s.get [true, true, false] = x10 ∧ s.get [false, false, true] = .slice bo 0 N N ∧ s.get [true, false, true] = .slice by' 0 L.length vy ∧ s.get [true, true, true] = z ∧ s.get [false, false, false, false] = G j ∧ s.get [true, false, false, false] = G ((i + 1 : Nat) : Int)) := by
        clear ihk kk
        generalize cnt S j (L.getD i 0) = w at *
        generalize hcc : L.getD i 0 = c at *
        generalize gn (rowC S j) = cs at *
        generalize gn L = ys at *
        generalize S.length = nS at *
        generalize hll : L.length = nL at *
        refine Tr.w fun s1 H1 hp _ kR => W.trim ?_
        obtain ⟨rfl, q⟩ := hp
        refine W.assoc ?_
        refine W.seq (W.chunk ?_)
        simp (disch := first|omega|exact zE rfl|exact zO|exact zL rfl) [-evDraw_c, c34_o12, zG, q, evDraw_0, g1, lo, er, er', gr, l1, e1, e1', gy, c1, c1', lc]
        refine W.seq (W.chunk ?_)
        simp (disch := first|omega|exact zE rfl|exact zO|exact zL rfl) [zG, q]
        refine W.block ?_
        refine W.seq (W.chunk ?_)
        simp (disch := first|omega|exact zE rfl|exact zO|exact zL rfl) [-evDraw_c, c34_o13, zG, q, evDraw_0, g1, lo, er, er', gr, l1, e1, e1', gy, c1, c1', lc]
        refine W.chunk ?_
        simp (disch := first|omega|exact zE rfl|exact zO|exact zL rfl) [c34_o14, zG, q]
        exact kR _ _ (by simp [T.get, q])
      exact Tr.next step ihk
def TN (h : Heap) (x : AV) (S : List (List Nat)) (N : Nat) : Prop := 0 < N → ∃ bo ros, x = .slice bo 0 N N ∧ h.get bo = .cells 1 N ros ∧ ros.length = N ∧ ∀ j, j < N → ∃ br, ros[j]? = some (.slice br 0 S.length S.length) ∧ h.get br = .cells 1 S.length (gn (rowC S j))
theorem c34_l2_ok (J : CallF) {Hb : Heap} {x9 x10 x11 : AV} (rx : RV Hb x9 (wsL R)) (hR : R.length = S.length) (ln : LN Hb x10 S) (os : OkS S) (tn : TN Hb x11 S N) (h40 : N ≤ 40) (bd : ∀ j, j < N → ∀ i, i < S.length → cnt S j i ≤ 1152921504606846976) :
    ∀ (j : Nat) (L : List Nat) (k : Nat) y z acc H, RV Hb y (gn L) → L.length ≤ 1000 → (∀ c ∈ L, c < S.length) → NV Hb H z acc → acc.length + j ≤ 40 → j ≤ N → k ≤ 1152921504606846976 → (∀ j', j = j' + 1 → k < (L.map (cnt S j')).sum) →
    Tr tbl J c34_l2 (fun s h => h = H ∧ s.get [false, false] = G k ∧ s.get [false, true, false] = x9 ∧ s.get [true, true, false] = x10 ∧ s.get [false, false, true] = x11 ∧ s.get [true, false, true] = y ∧ s.get [true, true, true] = z ∧ s.get [false, false, false, false] = G ((j : Int) - 1)) (.exit 2)
      (fun s h => ∃ z', NV Hb h z' (acc ++ wsL ((itm S j L k).map fun c => R.getD c [])) ∧ s.get [true, true, true] = z') := by
  intro j
  induction j with
  | zero =>
    intro L k y z acc H ry o1 o2 nv o3 o4 o5 o6
    have nv : NV Hb H z (acc ++ wsL ((itm S 0 L k).map fun c => R.getD c [])) := by
      show NV Hb H z (acc ++ [])
      rw [List.append_nil]; exact nv
    generalize acc ++ wsL ((itm S 0 L k).map fun c => R.getD c []) = L2 at *
    clear o1 o2 o3 o4 o5 o6 ry rx hR ln os tn bd
    refine Tr.out ?_ (by simp)
    refine Tr.w fun s1 H1 hp _ kR => W.trim ?_
    obtain ⟨rfl, q⟩ := hp
    refine W.assoc ?_
    refine W.seq (W.chunk ?_)
    simp (disch := first|omega|exact zE rfl|exact zO|exact zL rfl) [c34_o10, zG, q]
    refine W.seq (W.chunk ?_)
    simp (disch := first|omega|exact zE rfl|exact zO|exact zL rfl) [zG, q]
    exact kR _ _ ⟨_, nv, by simp [T.get, q]⟩
  | succ j ih =>
    intro L k y z acc H ry hL hLt nv ha hj hk hs0
    have n2 := os.n
    have hk1 := hs0 j rfl
    obtain ⟨bo, ros, rfl, gT, lo, tb⟩ := tn (by omega)
    obtain ⟨br, er, gr⟩ := tb j (by omega)
    have kH := nv.k
    obtain ⟨p1, p2, p3⟩ := pk_ok hk1
    have l1 := c34_l1_ok (x9 := x9) (x10 := x10) (z := z) J (ry.kp kH (fun _ _ => id)) hL hLt lo (kH.at gT (by simp) id) er (kH.at gr (by simp) id) (by omega) h40 n2 (bd j (by omega)) L.length 0 k (by omega) hk (by rw [List.drop_zero]; exact hk1)
    rw [List.drop_zero] at l1
    have it : itm S (j + 1) L k = (pk (cnt S j) L k).1 :: itm S j (S.getD (pk (cnt S j) L k).1 []) (pk (cnt S j) L k).2 := rfl
    rw [it]
    generalize hc : (pk (cnt S j) L k).1 = c at *
    generalize hk' : (pk (cnt S j) L k).2 = k' at *
    have cn : c < S.length := hLt c p1
    obtain ⟨bx, v, rfl, gx⟩ : ∃ b v, x9 = .slice b 0 S.length v ∧ Hb.get b = .cells 1 v (wsL R) := by
      rcases rx with ⟨_, e⟩ | ⟨b, v, e, g⟩
      · have : (wsL R).length = 0 := by rw [e]; rfl
        rw [wsL_len, hR] at this; omega
      · rw [wsL_len, hR] at e; exact ⟨b, v, e, g⟩
    obtain ⟨by', vy, rfl, gy⟩ : ∃ b v, y = .slice b 0 L.length v ∧ Hb.get b = .cells 1 v (gn L) := by
      have hp := List.length_pos_of_mem p1
      rcases ry with ⟨_, e⟩ | ⟨b, v, e, g⟩
      · have : (gn L).length = 0 := by rw [e]; rfl
        rw [gn_len] at this; omega
      · rw [gn_len] at e; exact ⟨b, v, e, g⟩
    obtain ⟨rs, lv, lrs, hr⟩ := ln
    obtain ⟨b10, rfl, g10⟩ := lv.resolve_left (fun e => by omega)
    obtain ⟨yc, ec, rc⟩ := hr c cn
    have ec' := getI ec
    have ew := wsL_at (R := R) (i := c) (by omega)
    have ew' := getI ew
    have lw : (wsL R).length = S.length := by rw [wsL_len, hR]
    have lc := gn_len L
    have cU : ∀ t, t < L.length → L.getD t 0 = c → (gn L)[t]? = some (G c) ∧ ∀ h : t < (gn L).length, (gn L)[t] = G c := fun t ht e => by
      have := gn_at ht
      rw [e] at this
      exact ⟨this, getI this⟩
    obtain ⟨x1, e, H2, q1, q2, nv2, q4⟩ := nv.app H.size 16 (.str (stW (R.getD c []))) (by omega)
    have k2 := nv2.k
    have gx1 := kH.at gx (by simp) id
    have gy1 := kH.at gy (by simp) id
    have gy2 := k2.at gy (by simp) id
    have g102 := k2.at g10 (by simp) id
    have ih' := ih (S.getD c []) k' yc x1 (acc ++ [.str (stW (R.getD c []))]) H2 rc (os.len c) (os.lt c) nv2 (by rw [List.length_append, List.length_singleton]; omega) (by omega) (by omega) (fun j' e => by
      subst e
      exact p2)
    rw [List.append_assoc] at ih'
    have step : Tr tbl J (.trim [[false, false], [false, true, false], [true, true, false], [false, false, true], [true, false, true], [true, true, true], [false, false, false, false]] c34_b2) (fun s h => h = H ∧ s.get [false, false] = G k ∧ s.get [false, true, false] = .slice bx 0 S.length v ∧ s.get [true, true, false] = .slice b10 0 S.length S.length ∧ s.get [false, false, true] = .slice bo 0 N N ∧ s.get [true, false, true] = .slice by' 0 L.length vy ∧ s.get [true, true, true] = z ∧ s.get [false, false, false, false] = G (((j + 1 : Nat) : Int) - 1)) .normal (fun s h => h = H2 ∧ s.get [false, false] = G k' ∧ s.get [false, true, false] = .slice bx 0 S.length v ∧ s.get [true, true, false] = .slice b10 0 S.length S.length ∧ s.get [false, false, true] = .slice bo 0 N N ∧ s.get [true, false, true] = yc ∧ s.get [true, true, true] = x1 ∧ s.get [false, false, false, false] = G ((j : Int) - 1)) := by
      clear ih ih' ry rx hR os tn bd hs0 it hc hk' hr rc nv nv2 kH k2 gx gy g10 gT gr tb lv p1 p2 hLt hk1 q4
      rw [show ((j + 1 : Nat) : Int) - 1 = (j : Int) by omega]
      generalize stW (R.getD c []) = u at *
      generalize wsL R = ws at *
      generalize gn L = ys at *
      generalize hnL : L.length = nL at *
      generalize S.length = nS at *
      refine Tr.w fun s1 H1 hp _ kR => W.trim ?_
      obtain ⟨rfl, q⟩ := hp
      refine W.assoc ?_
      refine W.seq (W.chunk ?_)
      simp (disch := first|omega|exact zE rfl|exact zO|exact zL rfl) [c34_o10, zG, q]
      refine W.seq (W.chunk ?_)
      simp (disch := first|omega|exact zE rfl|exact zO|exact zL rfl) [zG, q]
      refine W.seq (W.block ?_)
      refine W.seq (W.chunk ?_)
      simp (disch := first|omega|exact zE rfl|exact zO|exact zL rfl) [c34_o11, zG, q]
      refine W.seq (W.block ?_)
      refine W.use (l1) (by simp (disch := first|omega|exact zE rfl|exact zO|exact zL rfl) [zG, q]) fun s1 H1 hp => ?_
      obtain ⟨t, ⟨rfl, ht, htc⟩, q⟩ := hp
      try simp only [zW, if_true]
      obtain ⟨c1, c1'⟩ := cU t ht htc
      refine W.seq (W.chunk ?_)
      simp (disch := first|omega|exact zE rfl|exact zO|exact zL rfl) [c34_o15, zG, q, gx1, ew, ew', lw, gy1, c1, c1', lc, q1, q2, app1_at, elems, rdOf]
      refine W.chunk ?_
      simp (disch := first|omega|exact zE rfl|exact zO|exact zL rfl) [c34_o16, zG, q, gy2, c1, c1', lc, g102, ec, ec', lrs]
      refine W.chunk ?_
      simp (disch := first|omega|exact zE rfl|exact zO|exact zL rfl) [c34_o17, zG, q]
      exact kR _ _ (by simp [T.get, q])
    exact Tr.next step ih'
end
theorem c34_o1_ok (J : CallF) {Hs Z : Heap} {b : Nat} {own1 own2 : List AObj} {x9 x10 : AV} {aq m n k : Int} {ax ay : AV} (gS : Hs.get b = .cells 0 3 [G aq, ax, ay]) (gS1 : (Hs.plus own1).get b = .cells 0 3 [G aq, ax, ay]) (e30 : J 30 [.agg [G aq, ax, ay], G m] Hs = some (x9, own1, false)) (e31 : J 31 [.agg [G aq, ax, ay], G m] (Hs.plus own1) = some (x10, own2, false)) (hZ : (Hs.plus own1).plus own2 = Z) :
    Tr tbl J c34_o1 (fun s h => h = Hs ∧ s.get [false] = G m ∧ s.get [true] = G n ∧ s.get [false, false] = G k ∧ s.get [true, false] = .ptr b 0 3) .normal (fun s h => h = Z ∧ s.get [true] = G n ∧ s.get [false, false] = G k ∧ s.get [false, true, false] = x9 ∧ s.get [true, true, false] = x10) := by
  have hb := get_lt gS (by simp)
  have hp0 : ∀ H : Heap, H.plus [] = H := fun H => by simp [Heap.plus]
  have o1 : own1 = [] ∨ ∃ o os, own1 = o :: os := by cases own1 <;> simp
  have o2 : own2 = [] ∨ ∃ o os, own2 = o :: os := by cases own2 <;> simp
  rcases o1 with rfl | ⟨u1, v1, rfl⟩ <;> rcases o2 with rfl | ⟨u2, v2, rfl⟩
  all_goals
    try rw [hp0] at hZ
    try rw [hp0] at hZ
    try rw [hp0] at gS1
    try rw [hp0] at e31
    subst hZ
    refine Tr.w fun s1 H1 hp _ kR => ?_
    obtain ⟨rfl, q⟩ := hp
    refine W.chunk ?_
    simp (disch := first|omega|exact zE rfl|exact zO|exact zL rfl) [c34_o1, zG, q, gS, gS1, e30, e31, -evDraw_c, evDraw_0]
    refine kR _ _ ?_
    simp [T.get, q]
section
variable {a : AR} {m n : Int} {k : Nat}
theorem c34_ok (J : CallF) (k30 : K30 J) (k31 : K31 J) (k71 : K71 J) (hJ : ∀ a h, J 34 a h = none) (h : Heap) (o : OkR a h) (g : a.gd m n 0 = true) (hc : okC (a.steps m) n.toNat = true) (hk : k < a.cn m n.toNat) : ∃ v own, CallsTo tbl J 34 [a.v, G m, G n, G k] h (v, own, false) ∧ RV (h.plus own) v (wsL (a.itR m n.toNat k)) := by
  unfold AR.gd at g
  simp only [Bool.and_eq_true, decide_eq_true_eq] at g
  obtain ⟨r, n1, n2⟩ := g
  obtain ⟨r1, r2⟩ := a.rm_iff r
  obtain ⟨os, s243, sr⟩ := AR.steps_ok r
  obtain ⟨Hs, hHs⟩ : ∃ H, (⟨h.get, h.size, [.cells 0 3 [G a.q, a.x, a.y]]⟩ : Heap) = H := ⟨_, rfl⟩
  have kHs : Kp (fun _ => False) (frameOf h) Hs := by rw [← hHs]; exact Kp.plus (frameOf h) [.cells 0 3 [G a.q, a.x, a.y]]
  have oH : OkR a Hs := by rw [← hHs]; exact o.lo _
  have gS : Hs.get h.size = .cells 0 3 [G a.q, a.x, a.y] := by rw [← hHs, get_mk_ge _ _ _ _ (Nat.le_refl _), Nat.sub_self]; rfl
  obtain ⟨x9, own1, e30, l30, _⟩ := k30 Hs a.g m.toNat (oH.g r1) (by omega)
  rw [a.gv r1, show ((m.toNat : Nat) : Int) = m by omega] at e30
  have kA : Kp (fun _ => False) Hs (Hs.plus own1) := Kp.plus _ _
  have gS1 := kA.at gS (by simp) id
  obtain ⟨x10, own2, e31, l31⟩ := k31 (Hs.plus own1) a.g m.toNat ((oH.kp kA).g r1) (by omega)
  rw [a.gv r1, show ((m.toNat : Nat) : Int) = m by omega] at e31
  obtain ⟨Z, hZ⟩ : ∃ Z, (Hs.plus own1).plus own2 = Z := ⟨_, rfl⟩
  have kZ : Kp (fun _ => False) (Hs.plus own1) Z := by rw [← hZ]; exact Kp.plus _ _
  rw [hZ] at l31
  have ln : LN Z x10 (a.steps m) := l31.ln
  have rx : RV Z x9 (wsL (a.rows m)) := l30.kp kZ (fun _ _ => id)
  have t1 := c34_o1_ok (n := n) (k := k) J gS gS1 e30 e31 hZ
  obtain ⟨v71, own3, e71, tb⟩ := k71 Z x10 n.toNat (a.steps m) os ln (by omega)
  have nn : ((n.toNat : Nat) : Int) = n := by omega
  rw [nn] at e71
  obtain ⟨Z2, hZ2⟩ : ∃ H, Z.plus own3 = H := ⟨_, rfl⟩
  have kZ2 : Kp (fun _ => False) Z Z2 := by rw [← hZ2]; exact Kp.plus _ _
  rw [hZ2] at tb
  have bd : ∀ j, j < n.toNat → ∀ i, i < (a.steps m).length → cnt (a.steps m) j i ≤ 1152921504606846976 := fun j hj i hi => Nat.le_trans (cnt_le _ j hi) (okC_iff.1 hc j hj)
  have rS : ∀ j, j < n.toNat → rowS (a.steps m) j = rowC (a.steps m) j := fun j hj => by
    unfold rowS rowC
    exact lN_ext fun i hi => sat_of (bd j hj i hi)
  have tn : TN Z2 v71 (a.steps m) n.toNat := fun h0 => by
    obtain ⟨bo, ros, e1, e2, e3, e4⟩ := tb.sl (i := 0) (by rw [rowsS_len]; exact h0)
    rw [rowsS_len] at e1 e2 e3
    refine ⟨bo, ros, e1, e2, e3, fun j hj => ?_⟩
    obtain ⟨br, e5, e6⟩ := e4 j _ (rowsS_at _ hj)
    rw [rS j hj, gn_len, rowC_len] at e5 e6
    exact ⟨br, e5, e6⟩
  have sx := rx.sl
  rw [wsL_len, ← sr] at sx
  have l0 := c34_l0_ok (S := a.steps m) (Hb := Z2) (x9 := x9) (x10 := x10) (x11 := v71) (k := k) (n := n) J sx os
  have kz := (((kHs.trans kA).trans kZ).trans kZ2)
  have l2 : ∀ y H, NV Z2 H y (gn (List.range (a.steps m).length)) → Tr tbl J c34_l2 (fun s h => h = H ∧ s.get [false, false] = G k ∧ s.get [false, true, false] = x9 ∧ s.get [true, true, false] = x10 ∧ s.get [false, false, true] = v71 ∧ s.get [true, false, true] = y ∧ s.get [true, true, true] = .nils ∧ s.get [false, false, false, false] = G (n - 1)) (.exit 2)
      (fun s h => ∃ z', NV Z2 h z' (wsL (a.itR m n.toNat k)) ∧ s.get [true, true, true] = z') := fun y H nv => by
    have l2 := c34_l2_ok (R := a.rows m) J ((rx.kp kZ2 (fun _ _ => id)).kp nv.k (fun _ _ => id)) sr.symm ((ln.kp kZ2).kp nv.k) os (N := n.toNat) (x11 := v71) (Hb := H) (fun h0 => by
      obtain ⟨bo, ros, e1, e2, e3, e4⟩ := tn h0
      refine ⟨bo, ros, e1, nv.k.at e2 (by simp) id, e3, fun j hj => ?_⟩
      obtain ⟨br, e5, e6⟩ := e4 j hj
      exact ⟨br, e5, nv.k.at e6 (by simp) id⟩) (by omega) bd n.toNat (List.range (a.steps m).length) k y .nils [] H nv.rv (by rw [List.length_range]; exact os.n) (fun c hc => List.mem_range.1 hc) (NV.nil H) (by simp; omega) (Nat.le_refl _) (by
        cases hN : n.toNat with
        | zero =>
          rw [hN] at hk
          have : a.cn m 0 = 1 := rfl
          omega
        | succ N =>
          have := okC_iff.1 hc N (by omega)
          have cn : a.cn m (N + 1) = (rowC (a.steps m) N).sum := by
            unfold AR.cn
            rw [if_neg (by omega), Nat.add_sub_cancel]
          rw [hN, cn] at hk
          omega) (fun j' e => by
        have cn : a.cn m (j' + 1) = (rowC (a.steps m) j').sum := by
          unfold AR.cn
          rw [if_neg (by omega), Nat.add_sub_cancel]
        rw [e, cn] at hk
        exact hk)
    rw [List.nil_append, nn] at l2
    refine Tr.post (fun s h q => ?_) l2
    obtain ⟨z', nv', q⟩ := q
    exact ⟨z', nv'.base nv.k, q⟩
  refine Tr.fny (cf := c34) (e := .ret) (s := T.set (T.set (T.set (T.set .leaf [] a.v) [false] (G m)) [true] (G n)) [false, false] (G k)) (by decide) rfl (hJ _ _) rfl rfl (by simp) ?_
  have nv0 : NV Z2 Z2 .nils (gn []) := NV.nil Z2
  clear tb tn ln rx l31 l30 kHs kA kZ kZ2 os bd rS oH o hk hc sr s243
  generalize a.itR m n.toNat k = out at *
  generalize (a.steps m).length = nS at *
  refine Tr.w fun s1 H1 hp _ kR => ?_
  obtain ⟨rfl, rfl⟩ := hp
  have q : True := trivial
  refine W.seq (W.chunk ?_)
  simp (disch := first|omega|exact zE rfl|exact zO|exact zL rfl) [c34_o0, size_mk, get_mk_lt, get_mk_ge, frameOf, Eff.app, Heap.setOwn, q, hHs]
  refine W.seq (W.use (t1) (by simp (disch := first|omega|exact zE rfl|exact zO|exact zL rfl) [zG, q]) fun s1 H1 hp => ?_)
  obtain ⟨rfl, q⟩ := hp
  try simp only [zW, if_true]
  refine W.seq (W.chunk ?_)
  simp (disch := first|omega|exact zE rfl|exact zO|exact zL rfl) [c34_o2, zG, q, e71, app_if, app_if', hZ2]
  refine W.seq (W.chunk ?_)
  simp (disch := first|omega|exact zE rfl|exact zO|exact zL rfl) [c34_o3, zG, q]
  refine W.assoc ?_
  refine W.seq (W.chunk ?_)
  simp (disch := first|omega|exact zE rfl|exact zO|exact zL rfl) [c34_o4, zG, q]
  refine W.seq (W.block ?_)
  refine W.use (l0) (by simp (disch := first|omega|exact zE rfl|exact zO|exact zL rfl) [zG, q, nv0]) fun s1 H1 hp => ?_
  obtain ⟨y, nv, q⟩ := hp
  try simp only [zW, if_true]
  refine W.seq (W.chunk ?_)
  simp (disch := first|omega|exact zE rfl|exact zO|exact zL rfl) [c34_o8, zG, q]
  refine W.assoc ?_
  refine W.seq (W.chunk ?_)
  simp (disch := first|omega|exact zE rfl|exact zO|exact zL rfl) [c34_o9, zG, q]
  refine W.seq (W.block ?_)
  refine W.use (l2 _ _ nv) (by simp (disch := first|omega|exact zE rfl|exact zO|exact zL rfl) [zG, q]) fun s1 H1 hp => ?_
  obtain ⟨z, nz, q⟩ := hp
  try simp only [zW, if_true]
  refine W.seq (W.chunk ?_)
  simp (disch := first|omega|exact zE rfl|exact zO|exact zL rfl) [c34_o18, zG, q]
  refine W.ret ?_
  try simp only [zW, if_true]
  refine kR _ _ ?_
  exact ⟨[z], by simp [T.get, c34, evRess, evRes, q], nz.rv.fr (kz.trans nz.k)⟩
end
structure ARq where
  a : AR
  m : Int
  n : Int
  k : Nat
def Pre34 (b : ARq) (args : List AV) (h : Heap) : Prop := (OkR b.a h ∧ b.a.gd b.m b.n 0 = true ∧ okC (b.a.steps b.m) b.n.toNat = true ∧ b.k < b.a.cn b.m b.n.toNat) ∧ args = [b.a.v, G b.m, G b.n, G b.k]
def Post34 (b : ARq) (h : Heap) (v : AV) (own : List AObj) : Prop := RV (h.plus own) v (wsL (b.a.itR b.m b.n.toNat b.k))
noncomputable def T51 : CallF := addK tbl T50 34 Pre34 Post34
theorem t51 : Sound Go.Proofs.Try.prog T51 := Sound.addK follows ok t50 (by decide) _ _
abbrev K34 (J : CallF) : Prop := ∀ (h : Heap) (a : AR) (m n : Int) (k : Nat), OkR a h → a.gd m n 0 = true → okC (a.steps m) n.toNat = true → k < a.cn m n.toNat → ∃ v own, J 34 [a.v, G m, G n, G k] h = some (v, own, false) ∧ RV (h.plus own) v (wsL (a.itR m n.toNat k))
theorem k30_50 : K30 T50 := fun h a m o m5 => by
  obtain ⟨v, own, e, l⟩ := k30 h a m o m5
  exact ⟨v, own, by rw [show T50 30 [a.v, G m] h = T24 30 [a.v, G m] h from by simp (disch := decide) only [T25, T26, T27, T28, T29, T30, T31, T32, T33, T34, T35, T36, T37, T38, T39, T40, T41, T42, T43, T44, T45, T46, T47, T48, T49, T50, addI_ne, addX_ne, addV_ne, addK_ne]]; exact e, l⟩
theorem k31_50 : K31 T50 := fun h a m o m5 => by
  obtain ⟨v, own, e, l⟩ := k31 h a m o m5
  exact ⟨v, own, by rw [show T50 31 [a.v, G m] h = T25 31 [a.v, G m] h from by simp (disch := decide) only [T26, T27, T28, T29, T30, T31, T32, T33, T34, T35, T36, T37, T38, T39, T40, T41, T42, T43, T44, T45, T46, T47, T48, T49, T50, addI_ne, addX_ne, addV_ne, addK_ne]]; exact e, l⟩
theorem k71_50 : K71 T50 := fun h x nn S h1 h2 h3 => by
  obtain ⟨v, own, e, l⟩ := k71 h x nn S h1 h2 h3
  exact ⟨v, own, by rw [show T50 71 [x, G nn] h = T40 71 [x, G nn] h from by simp (disch := decide) only [T41, T42, T43, T44, T45, T46, T47, T48, T49, T50, addI_ne, addX_ne, addV_ne, addK_ne]]; exact e, l⟩
theorem k34 : K34 T51 := fun h a m n k o g hc hk => by
  obtain ⟨v, own, e, l⟩ := addK_some (Pre := Pre34) (Post := Post34) (fun b args h hp => by
    obtain ⟨⟨o, g, hc, hk⟩, rfl⟩ := hp
    exact c34_ok T50 k30_50 k31_50 k71_50 (fun _ _ => by simp (disch := decide) only [T1, T2, T3, T4, T5, T6, T7, T8, T9, T10, T11, T12, T13, T14, T15, T16, T17, T18, T19, T20, T21, T22, T23, T24, T25, T26, T27, T28, T29, T30, T31, T32, T33, T34, T35, T36, T37, T38, T39, T40, T41, T42, T43, T44, T45, T46, T47, T48, T49, T50, addI_ne, addX_ne, addV_ne, addK_ne]; rfl) h o g hc hk) ⟨a, m, n, k⟩ _ h ⟨⟨o, g, hc, hk⟩, rfl⟩
  exact ⟨v, own, e, l⟩
structure KnI (J : CallF) : Prop where
  k24 : K24 J
  k28 : K28 J
  k29 : ∀ (h : Heap) (x z : AV) (L M : List (List UInt8)), RV h x (ss L) → RV h z (ss M) → L.length ≤ 1000000 → M.length ≤ 1000000 → J 29 [x, z] h = some (.bool (decide (L = M)), [], false)
  k32 : K32 J
  k33 : K33 J
  k34 : K34 J
  k23 : ∀ h, J 23 [] h = some (.bool true, [], false)
section
variable {nq m nn k : Int} {X Y : List (List Int)}
theorem c5_ok (J : CallF) (K : KnI J) (hJ : ∀ a h, J 5 a h = none) (h : Heap) {x y : AV} (mx : MR h x X) (my : MR h y Y) : CallsTo tbl J 5 [.agg [G nq, x, y], .agg [G m, G nn, G k]] h (.bool true, [], false) := by
  refine Tr.fnv (cf := c5) (e := .ret) (s := T.set (T.set .leaf [] (.agg [G nq, x, y])) [false] (.agg [G m, G nn, G k])) (by decide) rfl (hJ _ _) rfl rfl rfl (by simp) ?_
  refine Tr.post (Q := (fun s h => s.get [true, false] = .bool true)) (fun s h q => by simp [c5, q]) ?_
  have mx0 : MR (frameOf h) x X := mx.lo []
  have my0 : MR (frameOf h) y Y := my.lo []
  generalize frameOf h = H0 at *
  obtain ⟨Hr, hr⟩ : ∃ H, H0.plus [.cells 0 3 [G nq, x, y]] = H := ⟨_, rfl⟩
  have kr : Kp (fun _ => False) H0 Hr := by rw [← hr]; exact Kp.plus _ _
  have gS0 : Hr.get H0.size = .cells 0 3 [G nq, x, y] := by rw [← hr]; exact plus_at0 _ _ _ _ rfl
  obtain ⟨Ha, ha⟩ : ∃ H, Hr.plus [.cells 0 3 [G m, G nn, G k]] = H := ⟨_, rfl⟩
  have ka : Kp (fun _ => False) Hr Ha := by rw [← ha]; exact Kp.plus _ _
  have gS := ka.at gS0 (by simp) id
  have gA0 : Ha.get Hr.size = .cells 0 3 [G m, G nn, G k] := by rw [← ha]; exact plus_at0 _ _ _ _ rfl
  obtain ⟨x', y', own1, e24, t1, t2⟩ := K.k24 Ha ⟨nq, x, y, X, Y⟩ ⟨(mx0.kp kr).kp ka, (my0.kp kr).kp ka⟩
  simp only at e24
  obtain ⟨Hb, hb⟩ : ∃ H, Ha.plus own1 = H := ⟨_, rfl⟩
  have kb : Kp (fun _ => False) Ha Hb := by rw [← hb]; exact Kp.plus _ _
  rw [hb] at t1 t2
  obtain ⟨Hc, hc⟩ : ∃ H, Hb.plus [.cells 0 3 [G nq, x', y']] = H := ⟨_, rfl⟩
  have kc : Kp (fun _ => False) Hb Hc := by rw [← hc]; exact Kp.plus _ _
  have gc : Hc.get Hb.size = .cells 0 3 [G nq, x', y'] := by rw [← hc]; exact plus_at0 _ _ _ _ rfl
  have gA := (kb.trans kc).at gA0 (by simp) id
  obtain ⟨a, haa⟩ : ∃ a : AR, a = ⟨nq, x', y', cutM X, cutM Y⟩ := ⟨_, rfl⟩
  have av : a.v = .agg [G nq, x', y'] := by subst haa; rfl
  have o : OkR a Hc := by rw [haa]; exact ⟨(t1.kp kc).mr, (t2.kp kc).mr, cutM_small _, cutM_small _⟩
  obtain ⟨v32, own32, e32, p1, p2, p3, p4⟩ := K.k32 Hc a m nn k o
  have e28 := fun H o => K.k28 H a m o
  have k33 := fun H o g => K.k33 H a m nn o g
  have k23 := K.k23
  rw [av] at e32
  clear t1 t2 mx my mx0 my0 kr ka kb kc gS0 gA0 haa
  cases g : a.gd m nn 0
  · obtain ⟨rfl, rfl⟩ := p1 g
    have e28 := e28 Hc o
    rw [av] at e28
    have gg : a.gd m nn 0 = (a.rm m && decide (0 ≤ nn ∧ nn ≤ 40)) := rfl
    rw [g] at gg
    clear p1 p2 p3 p4 k33 K g o
    generalize a.rm m = b1 at *
    refine Tr.w fun s1 H1 hp _ kR => ?_
    obtain ⟨rfl, rfl⟩ := hp
    have q : True := trivial
    cases b1
    · refine W.seq (W.chunk ?_)
      simp (disch := first|omega|exact zE rfl|exact zO|exact zL rfl) [c5_o0, zG, q, hr, ha]
      refine W.seq (W.chunk ?_)
      simp (disch := first|omega|exact zE rfl|exact zO|exact zL rfl) [c5_o1, zG, q, gS, e24, app_if, app_if', hb, hc]
      refine W.seq (W.chunk ?_)
      simp (disch := first|omega|exact zE rfl|exact zO|exact zL rfl) [-evDraw_c, c5_o2, zG, q, evDraw_0, gA]
      refine W.seq (W.chunk ?_)
      simp (disch := first|omega|exact zE rfl|exact zO|exact zL rfl) [c5_o3, zG, q, gc, e32]
      refine W.assoc ?_
      refine W.seq (W.chunk ?_)
      simp (disch := first|omega|exact zE rfl|exact zO|exact zL rfl) [c5_o4, zG, q, gc, e28]
      refine W.seq (W.chunk ?_)
      simp (disch := first|omega|exact zE rfl|exact zO|exact zL rfl) [c5_o5, zG, q, k23]
      exact kR _ _ (by simp [T.get])
    · have hn : ¬ (0 ≤ nn ∧ nn ≤ 40) := by simpa using gg.symm
      by_cases c : nn < 0
      · refine W.seq (W.chunk ?_)
        simp (disch := first|omega|exact zE rfl|exact zO|exact zL rfl) [c5_o0, zG, q, hr, ha]
        refine W.seq (W.chunk ?_)
        simp (disch := first|omega|exact zE rfl|exact zO|exact zL rfl) [c5_o1, zG, q, gS, e24, app_if, app_if', hb, hc]
        refine W.seq (W.chunk ?_)
        simp (disch := first|omega|exact zE rfl|exact zO|exact zL rfl) [-evDraw_c, c5_o2, zG, q, evDraw_0, gA]
        refine W.seq (W.chunk ?_)
        simp (disch := first|omega|exact zE rfl|exact zO|exact zL rfl) [c5_o3, zG, q, gc, e32]
        refine W.assoc ?_
        refine W.seq (W.chunk ?_)
        simp (disch := first|omega|exact zE rfl|exact zO|exact zL rfl) [c5_o4, zG, q, gc, e28, c]
        refine W.seq (W.chunk ?_)
        simp (disch := first|omega|exact zE rfl|exact zO|exact zL rfl) [c5_o5, zG, q, k23]
        exact kR _ _ (by simp [T.get])
      · have c2 : (40 : Int) < nn := by omega
        refine W.seq (W.chunk ?_)
        simp (disch := first|omega|exact zE rfl|exact zO|exact zL rfl) [c5_o0, zG, q, hr, ha]
        refine W.seq (W.chunk ?_)
        simp (disch := first|omega|exact zE rfl|exact zO|exact zL rfl) [c5_o1, zG, q, gS, e24, app_if, app_if', hb, hc]
        refine W.seq (W.chunk ?_)
        simp (disch := first|omega|exact zE rfl|exact zO|exact zL rfl) [-evDraw_c, c5_o2, zG, q, evDraw_0, gA]
        refine W.seq (W.chunk ?_)
        simp (disch := first|omega|exact zE rfl|exact zO|exact zL rfl) [c5_o3, zG, q, gc, e32]
        refine W.assoc ?_
        refine W.seq (W.chunk ?_)
        simp (disch := first|omega|exact zE rfl|exact zO|exact zL rfl) [c5_o4, zG, q, gc, e28, c, c2]
        refine W.seq (W.chunk ?_)
        simp (disch := first|omega|exact zE rfl|exact zO|exact zL rfl) [c5_o5, zG, q, k23]
        exact kR _ _ (by simp [T.get])
  · have gg := g
    unfold AR.gd at gg
    simp only [Bool.and_eq_true, decide_eq_true_eq] at gg
    obtain ⟨rm, n0, n40⟩ := gg
    have b0 : ¬ nn < 0 := by omega
    have b40 : ¬ (40 : Int) < nn := by omega
    have c33 : a.rcV m nn = if okC (a.steps m) nn.toNat then .tup [G (a.cn m nn.toNat), .bool true] else .tup [G 0, .bool false] := rfl
    rw [rm] at e28
    rw [av] at e28
    cases hk : okC (a.steps m) nn.toNat
    · obtain ⟨rfl, rfl⟩ := p2 g hk
      have e28 := e28 Hc o
      have e33 := k33 Hc o g
      rw [c33, hk, if_neg (by simp), av] at e33
      clear p1 p2 p3 p4 k33 K g o c33 hk rm
      refine Tr.w fun s1 H1 hp _ kR => ?_
      obtain ⟨rfl, rfl⟩ := hp
      have q : True := trivial
      refine W.seq (W.chunk ?_)
      simp (disch := first|omega|exact zE rfl|exact zO|exact zL rfl) [c5_o0, zG, q, hr, ha]
      refine W.seq (W.chunk ?_)
      simp (disch := first|omega|exact zE rfl|exact zO|exact zL rfl) [c5_o1, zG, q, gS, e24, app_if, app_if', hb, hc]
      refine W.seq (W.chunk ?_)
      simp (disch := first|omega|exact zE rfl|exact zO|exact zL rfl) [-evDraw_c, c5_o2, zG, q, evDraw_0, gA]
      refine W.seq (W.chunk ?_)
      simp (disch := first|omega|exact zE rfl|exact zO|exact zL rfl) [c5_o3, zG, q, gc, e32]
      refine W.assoc ?_
      refine W.seq (W.chunk ?_)
      simp (disch := first|omega|exact zE rfl|exact zO|exact zL rfl) [c5_o4, zG, q, gc, e28, b0, b40]
      refine W.seq (W.chunk ?_)
      simp (disch := first|omega|exact zE rfl|exact zO|exact zL rfl) [c5_o5, zG, q]
      refine W.seq (W.chunk ?_)
      simp (disch := first|omega|exact zE rfl|exact zO|exact zL rfl) [c5_o6, zG, q, gc, e33]
      refine W.assoc ?_
      refine W.seq (W.chunk ?_)
      simp (disch := first|omega|exact zE rfl|exact zO|exact zL rfl) [c5_o7, zG, q]
      refine W.seq (W.chunk ?_)
      simp (disch := first|omega|exact zE rfl|exact zO|exact zL rfl) [c5_o8, zG, q, k23]
      exact kR _ _ (by simp [T.get])
    · rw [hk, if_pos rfl] at c33
      by_cases hr' : 0 ≤ k ∧ k < a.cn m nn.toNat
      · obtain ⟨z, rfl, rz⟩ := p4 g hk hr'
        obtain ⟨Hd, hd⟩ : ∃ H, Hc.plus own32 = H := ⟨_, rfl⟩
        have kd : Kp (fun _ => False) Hc Hd := by rw [← hd]; exact Kp.plus _ _
        rw [hd] at rz
        have gcd := kd.at gc (by simp) id
        have e28 := e28 Hd (o.kp kd)
        have e33 := k33 Hd (o.kp kd) g
        rw [c33, av] at e33
        obtain ⟨kn, hkn⟩ : ∃ kn : Nat, k = kn := ⟨k.toNat, by omega⟩
        subst hkn
        rw [Int.toNat_natCast] at rz
        obtain ⟨w, own34, e34, rw'⟩ := K.k34 Hd a m nn kn (o.kp kd) g hk (by omega)
        obtain ⟨He, he⟩ : ∃ H, Hd.plus own34 = H := ⟨_, rfl⟩
        have ke : Kp (fun _ => False) Hd He := by rw [← he]; exact Kp.plus _ _
        rw [he] at rw'
        have gcE := ke.at gcd (by simp) id
        have len : ((a.itR m nn.toNat kn).map stW).length ≤ 1000000 := by
          unfold AR.itR
          rw [List.length_map, List.length_map, itm_len]; omega
        have rz' := rz.kp ke (fun _ _ => id)
        rw [ws_ss] at rz' rw'
        have e29 := K.k29 He z w _ _ rz' rw' len len
        rw [decide_eq_true rfl] at e29
        rw [av] at e34
        have r0 : ¬ (kn : Int) < 0 := by omega
        have r1 : ¬ (a.cn m nn.toNat : Int) ≤ kn := by omega
        clear p1 p2 p3 p4 k33 K g o c33 hk rm rz rz' rw' len kd ke gcE
        generalize a.cn m nn.toNat = cnv at *
        refine Tr.w fun s1 H1 hp _ kR => ?_
        obtain ⟨rfl, rfl⟩ := hp
        have q : True := trivial
        refine W.seq (W.chunk ?_)
        simp (disch := first|omega|exact zE rfl|exact zO|exact zL rfl) [c5_o0, zG, q, hr, ha]
        refine W.seq (W.chunk ?_)
        simp (disch := first|omega|exact zE rfl|exact zO|exact zL rfl) [c5_o1, zG, q, gS, e24, app_if, app_if', hb, hc]
        refine W.seq (W.chunk ?_)
        simp (disch := first|omega|exact zE rfl|exact zO|exact zL rfl) [-evDraw_c, c5_o2, zG, q, evDraw_0, gA]
        refine W.seq (W.chunk ?_)
        simp (disch := first|omega|exact zE rfl|exact zO|exact zL rfl) [c5_o3, zG, q, gc, e32, app_if, app_if', hd]
        refine W.assoc ?_
        refine W.seq (W.chunk ?_)
        simp (disch := first|omega|exact zE rfl|exact zO|exact zL rfl) [c5_o4, zG, q, gcd, e28, b0, b40]
        refine W.seq (W.chunk ?_)
        simp (disch := first|omega|exact zE rfl|exact zO|exact zL rfl) [c5_o5, zG, q]
        refine W.seq (W.chunk ?_)
        simp (disch := first|omega|exact zE rfl|exact zO|exact zL rfl) [c5_o6, zG, q, gcd, e33]
        refine W.assoc ?_
        refine W.seq (W.chunk ?_)
        simp (disch := first|omega|exact zE rfl|exact zO|exact zL rfl) [c5_o7, zG, q]
        refine W.seq (W.chunk ?_)
        simp (disch := first|omega|exact zE rfl|exact zO|exact zL rfl) [c5_o8, zG, q]
        refine W.assoc ?_
        refine W.seq (W.chunk ?_)
        simp (disch := first|omega|exact zE rfl|exact zO|exact zL rfl) [c5_o9, zG, q, r0, r1]
        refine W.seq (W.chunk ?_)
        simp (disch := first|omega|exact zE rfl|exact zO|exact zL rfl) [c5_o10, zG, q]
        refine W.seq (W.chunk ?_)
        simp (disch := first|omega|exact zE rfl|exact zO|exact zL rfl) [c5_o11, zG, q, gcd, e34, app_if, app_if', he, e29, k23]
        refine W.ret ?_
        try simp only [zW, if_true]
        exact kR _ _ (by simp [T.get, q])
      · obtain ⟨rfl, rfl⟩ := p3 g hk hr'
        have e28 := e28 Hc o
        have e33 := k33 Hc o g
        rw [c33, av] at e33
        clear p1 p2 p3 p4 k33 K g o c33 hk rm
        generalize a.cn m nn.toNat = cnv at *
        by_cases r0 : k < 0
        · refine Tr.w fun s1 H1 hp _ kR => ?_
          obtain ⟨rfl, rfl⟩ := hp
          have q : True := trivial
          refine W.seq (W.chunk ?_)
          simp (disch := first|omega|exact zE rfl|exact zO|exact zL rfl) [c5_o0, zG, q, hr, ha]
          refine W.seq (W.chunk ?_)
          simp (disch := first|omega|exact zE rfl|exact zO|exact zL rfl) [c5_o1, zG, q, gS, e24, app_if, app_if', hb, hc]
          refine W.seq (W.chunk ?_)
          simp (disch := first|omega|exact zE rfl|exact zO|exact zL rfl) [-evDraw_c, c5_o2, zG, q, evDraw_0, gA]
          refine W.seq (W.chunk ?_)
          simp (disch := first|omega|exact zE rfl|exact zO|exact zL rfl) [c5_o3, zG, q, gc, e32]
          refine W.assoc ?_
          refine W.seq (W.chunk ?_)
          simp (disch := first|omega|exact zE rfl|exact zO|exact zL rfl) [c5_o4, zG, q, gc, e28, b0, b40]
          refine W.seq (W.chunk ?_)
          simp (disch := first|omega|exact zE rfl|exact zO|exact zL rfl) [c5_o5, zG, q]
          refine W.seq (W.chunk ?_)
          simp (disch := first|omega|exact zE rfl|exact zO|exact zL rfl) [c5_o6, zG, q, gc, e33]
          refine W.assoc ?_
          refine W.seq (W.chunk ?_)
          simp (disch := first|omega|exact zE rfl|exact zO|exact zL rfl) [c5_o7, zG, q]
          refine W.seq (W.chunk ?_)
          simp (disch := first|omega|exact zE rfl|exact zO|exact zL rfl) [c5_o8, zG, q]
          refine W.assoc ?_
          refine W.seq (W.chunk ?_)
          simp (disch := first|omega|exact zE rfl|exact zO|exact zL rfl) [c5_o9, zG, q, r0]
          refine W.seq (W.chunk ?_)
          simp (disch := first|omega|exact zE rfl|exact zO|exact zL rfl) [c5_o10, zG, q, k23]
          exact kR _ _ (by simp [T.get])
        · have r1 : (cnv : Int) ≤ k := by omega
          refine Tr.w fun s1 H1 hp _ kR => ?_
          obtain ⟨rfl, rfl⟩ := hp
          have q : True := trivial
          refine W.seq (W.chunk ?_)
          simp (disch := first|omega|exact zE rfl|exact zO|exact zL rfl) [c5_o0, zG, q, hr, ha]
          refine W.seq (W.chunk ?_)
          simp (disch := first|omega|exact zE rfl|exact zO|exact zL rfl) [c5_o1, zG, q, gS, e24, app_if, app_if', hb, hc]
          refine W.seq (W.chunk ?_)
          simp (disch := first|omega|exact zE rfl|exact zO|exact zL rfl) [-evDraw_c, c5_o2, zG, q, evDraw_0, gA]
          refine W.seq (W.chunk ?_)
          simp (disch := first|omega|exact zE rfl|exact zO|exact zL rfl) [c5_o3, zG, q, gc, e32]
          refine W.assoc ?_
          refine W.seq (W.chunk ?_)
          simp (disch := first|omega|exact zE rfl|exact zO|exact zL rfl) [c5_o4, zG, q, gc, e28, b0, b40]
          refine W.seq (W.chunk ?_)
          simp (disch := first|omega|exact zE rfl|exact zO|exact zL rfl) [c5_o5, zG, q]
          refine W.seq (W.chunk ?_)
          simp (disch := first|omega|exact zE rfl|exact zO|exact zL rfl) [c5_o6, zG, q, gc, e33]
          refine W.assoc ?_
          refine W.seq (W.chunk ?_)
          simp (disch := first|omega|exact zE rfl|exact zO|exact zL rfl) [c5_o7, zG, q]
          refine W.seq (W.chunk ?_)
          simp (disch := first|omega|exact zE rfl|exact zO|exact zL rfl) [c5_o8, zG, q]
          refine W.assoc ?_
          refine W.seq (W.chunk ?_)
          simp (disch := first|omega|exact zE rfl|exact zO|exact zL rfl) [c5_o9, zG, q, r0, r1]
          refine W.seq (W.chunk ?_)
          simp (disch := first|omega|exact zE rfl|exact zO|exact zL rfl) [c5_o10, zG, q, k23]
          exact kR _ _ (by simp [T.get])
end
theorem kI51 : KnI T51 where
  k24 := fun h a o => by
    obtain ⟨x, y, own, e, l⟩ := k24 h a o
    exact ⟨x, y, own, by rw [show T51 24 [.agg [G a.q, a.x, a.y]] h = T31 24 [.agg [G a.q, a.x, a.y]] h from by simp (disch := decide) only [T32, T33, T34, T35, T36, T37, T38, T39, T40, T41, T42, T43, T44, T45, T46, T47, T48, T49, T50, T51, addI_ne, addX_ne, addV_ne, addK_ne]]; exact e, l⟩
  k28 := fun h a m o => by
    rw [show T51 28 [a.v, G m] h = T32 28 [a.v, G m] h from by simp (disch := decide) only [T33, T34, T35, T36, T37, T38, T39, T40, T41, T42, T43, T44, T45, T46, T47, T48, T49, T50, T51, addI_ne, addX_ne, addV_ne, addK_ne]]; exact k28 h a m o
  k29 := fun h x z L M h1 h2 h3 h4 => by
    rw [show T51 29 [x, z] h = T27 29 [x, z] h from by simp (disch := decide) only [T28, T29, T30, T31, T32, T33, T34, T35, T36, T37, T38, T39, T40, T41, T42, T43, T44, T45, T46, T47, T48, T49, T50, T51, addI_ne, addX_ne, addV_ne, addK_ne]]; exact k29 h ⟨x, z, L, M⟩ h1 h2 h3 h4
  k32 := fun h a m n k o => by
    obtain ⟨v, own, e, l⟩ := k32 h a m n k o
    exact ⟨v, own, by rw [show T51 32 [a.v, G m, G n, G k] h = T50 32 [a.v, G m, G n, G k] h from by simp (disch := decide) only [T51, addI_ne, addX_ne, addV_ne, addK_ne]]; exact e, l⟩
  k33 := fun h a m n o g => by
    rw [show T51 33 [a.v, G m, G n] h = T41 33 [a.v, G m, G n] h from by simp (disch := decide) only [T42, T43, T44, T45, T46, T47, T48, T49, T50, T51, addI_ne, addX_ne, addV_ne, addK_ne]]; exact k33 h a m n o g
  k34 := k34
  k23 := fun h => by
    rw [show T51 23 [] h = T2 23 [] h from by simp (disch := decide) only [T3, T4, T5, T6, T7, T8, T9, T10, T11, T12, T13, T14, T15, T16, T17, T18, T19, T20, T21, T22, T23, T24, T25, T26, T27, T28, T29, T30, T31, T32, T33, T34, T35, T36, T37, T38, T39, T40, T41, T42, T43, T44, T45, T46, T47, T48, T49, T50, T51, addI_ne, addX_ne, addV_ne, addK_ne]]; exact k23 h
theorem stripItems_ok (h : Heap) (m n k : Int) {nq : Int} {x y : AV} {B W : List (List Int)} (mx : MR h x B) (my : MR h y W) : CallsTo tbl T51 5 [.agg [G nq, x, y], .agg [G m, G n, G k]] h (.bool true, [], false) := c5_ok T51 kI51 (fun _ _ => by simp (disch := decide) only [T1, T2, T3, T4, T5, T6, T7, T8, T9, T10, T11, T12, T13, T14, T15, T16, T17, T18, T19, T20, T21, T22, T23, T24, T25, T26, T27, T28, T29, T30, T31, T32, T33, T34, T35, T36, T37, T38, T39, T40, T41, T42, T43, T44, T45, T46, T47, T48, T49, T50, T51, addI_ne, addX_ne, addV_ne, addK_ne]; rfl) h mx my
end Go.Proofs.Ytljgfdamdcikgaa.Ev
namespace Go.AEv
open Go.ChangeShapes Go.WideShapes
section
variable {H : Type} {enc : TypeId × Value → H} {P : Program} {k e : TypeId} {q : IntKind} {W : World} {base : Nat} {sp : Nat → Bool} {held : Bool}
theorem okWide_three (A : Go.WideMaps.ArrKey P k e 3) {r : Reach} {b0 : Nat} {v : Value} (h : Value.okWide P W r b0 k v) : ∃ c0 c1 c2, v = .agg #[c0, c1, c2] := by
  simp only [Value.okWide, A.hu] at h
  obtain ⟨cs, h1, h2, _⟩ := h
  rw [A.size] at h2
  obtain ⟨l⟩ := cs
  match l, h2 with
  | [c0, c1, c2], _ => exact ⟨c0, c1, c2, h1⟩
theorem open_three (A : Go.WideMaps.ArrKey P k e 3) (he : P.underlying e = some (.int q)) {r : Reach} {b0 : Nat} {v : Value} {d : DataW H} {ps : List MemPlace} (hval : Value.okWide P W r b0 k v) (hd : DataW.Trod enc P W base sp held k v d ps) :
    ∃ a b c : Int, v = .agg #[.int q a, .int q b, .int q c] ∧ d = .agg [.lit (.int q a), .lit (.int q b), .lit (.int q c)] ∧ ps = [] ∧ (Lit.int q a).wf = true ∧ (Lit.int q b).wf = true ∧ (Lit.int q c).wf = true := by
  obtain ⟨c0, c1, c2, rfl⟩ := okWide_three A hval
  obtain ⟨fuel, hf⟩ := hd
  cases fuel with
  | zero => simp [DataW.trod] at hf
  | succ n =>
    rw [DataW.trod_step] at hf
    unfold DataW.trodStep at hf
    simp only [A.hu, Value.cells] at hf
    rw [if_pos (by rw [A.size]; rfl)] at hf
    simp only [Option.map_eq_some_iff] at hf
    obtain ⟨xs, hx, e1⟩ := hf
    rw [show List.range 3 = [0, 1, 2] from rfl, List.mapM_cons, List.mapM_cons, List.mapM_cons, List.mapM_nil] at hx
    simp only [bind, Option.bind_eq_some_iff, pure, Option.some.injEq, A.one] at hx
    obtain ⟨y0, h0, _, ⟨y1, h1, _, ⟨y2, h2, _, rfl, rfl⟩, rfl⟩, rfl⟩ := hx
    obtain ⟨a, ea, rfl, wa⟩ := DataW.trod_int he h0
    obtain ⟨b, eb, rfl, wb⟩ := DataW.trod_int he h1
    obtain ⟨c, ec, rfl, wc⟩ := DataW.trod_int he h2
    simp at ea eb ec
    subst ea; subst eb; subst ec
    simp only [Prod.mk.injEq] at e1
    exact ⟨a, b, c, rfl, by rw [← e1.1]; rfl, by rw [← e1.2]; rfl, wa, wb, wc⟩
theorem shut_three (A : Go.WideMaps.ArrKey P k e 3) (he : P.underlying e = some (.int q)) {a b c : Int} (wa : (Lit.int q a).wf = true) (wb : (Lit.int q b).wf = true) (wc : (Lit.int q c).wf = true) :
    DataW.Trod enc P W base sp held k (.agg #[.int q a, .int q b, .int q c]) (.agg [.lit (.int q a), .lit (.int q b), .lit (.int q c)]) [] :=
  ⟨2, by
    show DataW.trod enc P W base sp held (1 + 1) k [.int q a, .int q b, .int q c] = _
    rw [DataW.trod_step]
    unfold DataW.trodStep
    simp only [A.hu]
    rw [if_pos (by rw [A.size]; rfl), show List.range 3 = [0, 1, 2] from rfl, List.mapM_cons, List.mapM_cons, List.mapM_cons, List.mapM_nil]
    simp [A.one, DataW.trod, he, wa, wb, wc]⟩
end
end Go.AEv
set_option linter.unusedVariables false
set_option linter.unusedSimpArgs false
namespace Go.AEv
open Go.ChangeShapes Go.WideShapes Go.Proofs.Ytljgfdamdcikgaa.Ev
theorem MR.ext {h h' : Heap} (e : Ext h h') {y : AV} {M : List (List Int)} (m : MR h y M) : MR h' y M := by
  rcases m with m | ⟨b, v, cs, rfl, g, hl, hr⟩
  · exact .inl m
  · refine .inr ⟨b, v, cs, rfl, e _ _ g (by simp), hl, fun i r q => ?_⟩
    obtain ⟨l, h1, h2⟩ := hr i r q
    exact ⟨l, h1, LR.ext e h2⟩
theorem rows_lo {CK : CKT} {w : World} {H : Type} {enc : TypeId × Value → H} {P : Program} {e i : TypeId} (he : P.underlying e = some (.slice i)) (hi : P.underlying i = some (.int .i64)) (hc : P.cellsOf i = 1) :
    ∀ (vs : List Value) {φ : Nat → Emb} {h : Heap} (ho : h.own = []) (hr : HR CK w [] φ h w), (∀ u ∈ vs, ∃ fuel z, DataW.trod enc P w 0 (fun _ => true) true fuel e [u] = some z) →
    ∃ φ' h', ∃ (rs : List AV) (ls : List (List Int)), h'.own = [] ∧ HR CK w [] φ' h' w ∧ Stp φ h φ' h' ∧ Ext h h' ∧ rs.length = vs.length ∧ ls.length = vs.length ∧ ∀ (j : Nat) u r, vs[j]? = some u → rs[j]? = some r → VR φ' h' r u ∧ Value.oneCell' u = true ∧ ∃ l, ls[j]? = some l ∧ LR h' r l
  | [], φ, h, ho, hr, _ => ⟨φ, h, [], [], ho, hr, Stp.refl φ h, Ext.refl h, rfl, rfl, fun j u r q => by simp at q⟩
  | u :: us, φ, h, ho, hr, ht => by
    obtain ⟨fuel, z, hf⟩ := ht u (by simp)
    obtain ⟨φ1, h1, x, l, o1, r1, s1, e1, v1, p1, c1⟩ := ints_lo0 ho hr he hi hc hf
    obtain ⟨φ2, h2, rs, ls, o2, r2, s2, e2, l1, l2, q⟩ := rows_lo he hi hc us o1 r1 (fun u' hu => ht u' (by simp [hu]))
    refine ⟨φ2, h2, x :: rs, l :: ls, o2, r2, s1.trans s2, e1.trans e2, by simp [l1], by simp [l2], fun j u' r hu hr' => ?_⟩
    cases j with
    | zero =>
      simp only [List.getElem?_cons_zero, Option.some.injEq] at hu hr'
      subst hu hr'
      exact ⟨VR.step s2 _ _ v1, c1, l, rfl, p1.ext e2⟩
    | succ j =>
      simp only [List.getElem?_cons_succ] at hu hr' ⊢
      exact q j u' r hu hr'
theorem mat_lo0 {CK : CKT} {φ : Nat → Emb} {h : Heap} {w : World} (ho : h.own = []) (hr : HR CK w [] φ h w) {H : Type} {enc : TypeId × Value → H} {P : Program} {t e i : TypeId} {v : Value} {fuel : Nat} {z : DataW H × List MemPlace}
    (ht : P.underlying t = some (.slice e)) (he : P.underlying e = some (.slice i)) (hi : P.underlying i = some (.int .i64)) (hce : P.cellsOf e = 1) (hci : P.cellsOf i = 1) (hf : DataW.trod enc P w 0 (fun _ => true) true fuel t [v] = some z) :
    ∃ φ' h' x M, h'.own = [] ∧ HR CK w [] φ' h' w ∧ Stp φ h φ' h' ∧ Ext h h' ∧ VR φ' h' x v ∧ MR h' x M ∧ Value.oneCell' v = true := by
  rcases DataW.trod_slice ht hf with ⟨hcs, _⟩ | ⟨a, len, cap, elems, rest, n, _, hcs, _, _, hl, hm, hlen, hel, hsp, _⟩
  · have hcs' : v = .slice none 0 0 := (List.cons.inj hcs).1
    rw [hcs']
    exact ⟨φ, h, .nils, [], ho, hr, Stp.refl φ h, Ext.refl h, by simp [VR], .inl ⟨.inl rfl, rfl⟩, rfl⟩
  · have hcs' : v = .slice (some a) len cap := (List.cons.inj hcs).1
    rw [hcs']
    by_cases h0 : len = 0
    · subst h0
      exact ⟨φ, h, .slice0, [], ho, hr, Stp.refl φ h, Ext.refl h, by simp [VR], .inl ⟨.inr rfl, rfl⟩, rfl⟩
    · obtain ⟨hrl, hre⟩ := hsp rfl
      have each : ∀ j, j < cap → ∃ u, w.cell? (a.add j) = some u ∧ ∃ z, DataW.trod enc P w 0 (fun _ => true) true n e [u] = some z := fun j hj => by
        have hb' : ∃ y, (w.cells? 0 (a.add (j * P.cellsOf e)) (P.cellsOf e)).bind (DataW.trod enc P w 0 (fun _ => true) true n e) = some y := by
          by_cases hjl : j < len
          · rw [hel j hjl, List.getElem?_eq_getElem (by omega)]; exact ⟨_, rfl⟩
          · have := hre (j - len) (by omega)
            rw [show len + (j - len) = j by omega] at this
            rw [this, List.getElem?_eq_getElem (by omega)]; exact ⟨_, rfl⟩
        obtain ⟨y, hy⟩ := hb'
        rw [hce, Nat.mul_one, Option.bind_eq_some_iff] at hy
        obtain ⟨cs', h1, h2⟩ := hy
        have hl1 := (World.cells?_some h1).2.1
        obtain ⟨u, rfl⟩ : ∃ u, cs' = [u] := by
          cases cs' with
          | nil => simp at hl1
          | cons u r => cases r with
            | nil => exact ⟨u, rfl⟩
            | cons u' r => simp at hl1
        exact ⟨u, cell_of_cells?_one h1, y, h2⟩
      obtain ⟨f, hfe⟩ : ∃ f : Nat → Value, ∀ j, j < cap → w.cell? (a.add j) = some (f j) ∧ ∃ z, DataW.trod enc P w 0 (fun _ => true) true n e [f j] = some z :=
        ⟨fun j => if hj : j < cap then Classical.choose (each j hj) else .nilFunc, fun j hj => by
          simp only [dif_pos hj]
          exact Classical.choose_spec (each j hj)⟩
      obtain ⟨b, off, spot⟩ := a
      have hspot : spot = none := by simpa [Addr.add] using World.cell?_spot (hfe 0 (by omega)).1
      subst hspot
      have hcell : ∀ j, j < cap → w.cell? ⟨b, off + j, none⟩ = some (f j) := fun j hj => by rw [← Go.WideShapes.add_plain]; exact (hfe j hj).1
      obtain ⟨c, ty, fr, hb, hc0⟩ := cell_obj (hcell 0 (by omega))
      have hcj : ∀ j, j < cap → c[off + j]? = some (f j) := fun j hj => by
        obtain ⟨c', ty', fr', hb', hcj⟩ := cell_obj (hcell j hj)
        rw [hb] at hb'
        simp only [Option.some.injEq, Obj.cells.injEq] at hb'
        obtain ⟨rfl, _⟩ := hb'
        exact hcj
      have hsize : off + cap ≤ c.size := by
        have := (Array.getElem?_eq_some_iff.1 (hcj (cap - 1) (by omega))).1
        omega
      obtain ⟨φ1, h1, rs, ls, o1, r1, s1, e1, l1, l2, q⟩ := rows_lo he hi hci ((List.range len).map f) ho hr (fun u hu => by
        obtain ⟨j, hj, rfl⟩ := List.mem_map.1 hu
        obtain ⟨z, hz⟩ := (hfe j (by have := List.mem_range.1 hj; omega)).2
        exact ⟨n, z, hz⟩)
      simp only [List.length_map, List.length_range] at l1 l2
      have hat : ∀ j, j < len → ((List.range len).map f)[j]? = some (f j) := fun j hj => by simp [hj]
      refine ⟨AEv.upd φ1 h1.N ⟨b, off, cap⟩, h1.more (.cells 1 len rs), .slice h1.N 0 len len, ls, rfl, lo_add o1 r1 _ _ ?_, s1.trans (lo_stp o1 _ _), e1.trans (more_ext h1 o1 _), ?_, .inr ⟨h1.N, len, rs, by rw [l2], more_at _ _, by omega, fun j r hr' => ?_⟩, rfl⟩
      · refine ⟨c, ty, fr, hb, hsize, by show rs.length ≤ cap; omega, fun j x hx => ?_⟩
        have hj : j < len := by have := (List.getElem?_eq_some_iff.1 hx).1; omega
        obtain ⟨q1, q2, _⟩ := q j (f j) x (hat j hj) hx
        exact ⟨f j, hcj j (by omega), VR.step (lo_stp o1 _ _) _ _ q1, q2⟩
      · simp only [VR]
        exact ⟨_, cap, 1, len, _, rfl, hl, more_at _ _, Nat.le_refl _, fun _ => ⟨by simp [AEv.upd], fun _ _ => by simp [AEv.upd]⟩⟩
      · have hj : j < len := by have := (List.getElem?_eq_some_iff.1 hr').1; omega
        obtain ⟨_, _, l, q3, q4⟩ := q j (f j) r (hat j hj) hr'
        exact ⟨l, q3, q4.ext (more_ext h1 o1 _)⟩
structure RuleKey (P : Program) (k i t : TypeId) (f g l : Field) : Prop where
  hu : P.underlying k = some (.struct #[f, g, l])
  size : P.cellsOf k = 3
  ci : P.cellsOf i = 1
  ct : P.cellsOf t = 1
  f1 : f.type = i
  f2 : g.type = t
  f3 : l.type = t
  o1 : f.offset = 0
  o2 : g.offset = 1
  o3 : l.offset = 2
theorem okWide_rule {P : Program} {W : World} {k i t : TypeId} {f g l : Field} (A : RuleKey P k i t f g l) {r : Reach} {b0 : Nat} {v : Value} (h : Value.okWide P W r b0 k v) : ∃ c0 c1 c2, v = .agg #[c0, c1, c2] := by
  simp only [Value.okWide, A.hu] at h
  obtain ⟨cs, h1, h2, _⟩ := h
  rw [A.size] at h2
  obtain ⟨l⟩ := cs
  match l, h2 with
  | [c0, c1, c2], _ => exact ⟨c0, c1, c2, h1⟩
theorem rule_lo {CK : CKT} {φ : Nat → Emb} {h : Heap} {w : World} (ho : h.own = []) (hr : HR CK w [] φ h w) {H : Type} {enc : TypeId × Value → H} {P : Program} {k i t e : TypeId} {f g l : Field} {v : Value} {d : DataW H} {p : List MemPlace} (A : RuleKey P k i t f g l)
    (ht : P.underlying t = some (.slice e)) (he : P.underlying e = some (.slice i)) (hi : P.underlying i = some (.int .i64)) (hce : P.cellsOf e = 1) {r : Reach} {b0 : Nat} (hval : Value.okWide P w r b0 k v) (kd : DataW.Trod enc P w 0 (fun _ => true) true k v d p) :
    ∃ φ' h' q x y B W, h'.own = [] ∧ HR CK w [] φ' h' w ∧ Stp φ h φ' h' ∧ Ext h h' ∧ VR φ' h' (.agg [.int .i64 q, x, y]) v ∧ MR h' x B ∧ MR h' y W := by
  obtain ⟨c0, c1, c2, rfl⟩ := okWide_rule A hval
  obtain ⟨fuel, hf⟩ := kd
  cases fuel with
  | zero => simp [DataW.trod] at hf
  | succ n =>
    rw [DataW.trod_step] at hf
    unfold DataW.trodStep at hf
    simp only [A.hu, Value.cells] at hf
    rw [if_pos (by rw [A.size]; rfl)] at hf
    simp only [Option.map_eq_some_iff] at hf
    obtain ⟨xs, hx, e1⟩ := hf
    rw [List.mapM_cons, List.mapM_cons, List.mapM_cons, List.mapM_nil] at hx
    simp only [bind, Option.bind_eq_some_iff, pure, Option.some.injEq, A.ci, A.ct, A.f1, A.f2, A.f3, A.o1, A.o2, A.o3] at hx
    obtain ⟨y0, h0, _, ⟨y1, h1, _, ⟨y2, h2, _, rfl, rfl⟩, rfl⟩, rfl⟩ := hx
    have h0' : DataW.trod enc P w 0 (fun _ => true) true n i [c0] = some y0 := h0
    have h1' : DataW.trod enc P w 0 (fun _ => true) true n t [c1] = some y1 := h1
    have h2' : DataW.trod enc P w 0 (fun _ => true) true n t [c2] = some y2 := h2
    obtain ⟨a, ea, _, _⟩ := DataW.trod_int hi h0'
    obtain rfl : c0 = .int .i64 a := by simpa using ea
    obtain ⟨φ1, m1, x, B, o1, r1, s1, x1, v1, p1, q1⟩ := mat_lo0 ho hr ht he hi hce A.ci h1'
    obtain ⟨φ2, m2, y, W, o2, r2, s2, x2, v2, p2, q2⟩ := mat_lo0 o1 r1 ht he hi hce A.ci h2'
    refine ⟨φ2, m2, a, x, y, B, W, o2, r2, s1.trans s2, x1.trans x2, ?_, Go.AEv.MR.ext x2 p1, p2⟩
    simp only [VR, VRs]
    refine ⟨#[.int .i64 a, c1, c2], rfl, ⟨_, [c1, c2], rfl, rfl, c1, [c2], rfl, VR.step s2 _ _ v1, c2, [], rfl, v2, rfl⟩, fun z hz => ?_⟩
    simp only [List.mem_cons, List.not_mem_nil, or_false] at hz
    rcases hz with rfl | rfl | rfl
    · rfl
    · exact q1
    · exact q2
end Go.AEv
