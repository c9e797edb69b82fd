/-
  Which numbers have a step to which ones, and which lead to which ones. No condition.
-/
import Derived.Test.YtjeemgaoonapgaaRTame
import Derived.Test.YtjeemgaoonapgaaEvW
set_option linter.unusedVariables false
set_option linter.unusedSimpArgs false
namespace Go.Proofs.Ytjeemgaoonapgaa.Ev
open Go Go.AEv

attribute [local simp] evFunc initS evOps_c evTrim_c evSkip_c evExit_c evRet_c evSeq_c evCond_c evBlock_c evDraw_c runOps_n runOps_c exec_n exec_g pure1_c act AOpd.ev T.get T.set T.put evBin evUn forceT_eq forceV_eq forceL_eq evRess evRes one keep runFP_n runFP_c app_none AV.flats AV.flat came_some List.getElem?_cons_zero List.getElem?_cons_succ beqT wrapI idxI tdivI tmodI decT decF ibT ibF inT inF evScope_c if_pos if_neg Cm_some thenW_n thenW_e thenW_r blkW_n blkW_e blkW_r goI kn putAt AV.cells fillA loadA takeA mk Eff.isAll Eff.isNone Eff.commutes Eff.spares okPair apart eqAgg fits LK.fits allEq aveq eqk mmA

theorem getI {α : Type} {l : List α} {i : Nat} {x : α} (e : l[i]? = some x) : ∀ h : i < l.length, l[i] = x := fun h => by rw [List.getElem?_eq_getElem h] at e; exact Option.some.inj e
theorem bls_flat (f : Nat → Bool) (n : Nat) : AV.flats (bls f n) = true := by
  unfold bls
  induction List.range n with
  | nil => rfl
  | cons x xs ih => simp only [List.map_cons, AV.flats, AV.flat, ih, Bool.true_and]
/-! ### steps -/
def stF (M : List (List Int)) (x : Nat) : Bool := decide (0 < ent M (x / 8) (x % 8))
def sF (M : List (List Int)) (i j x : Nat) : Bool := if x / 8 < i ∨ (x / 8 = i ∧ x % 8 < j) then stF M x else false
theorem ent_out {M : List (List Int)} (hm : isMat M = true) {i j : Nat} (h : M.length ≤ i ∨ M.length ≤ j) : ent M i j = 0 := by
  unfold ent
  by_cases hi : i < M.length
  · have := (isMat_row hm hi).1
    rw [List.getD_eq_getElem?_getD, List.getElem?_eq_none (by omega)]; rfl
  · rw [List.getD_eq_getElem?_getD (l := M), List.getElem?_eq_none (by omega)]; rfl
section
variable {M : List (List Int)}
theorem sF_0 : sF M 0 0 = fun _ => false := by
  funext x; unfold sF; rw [if_neg (by omega)]
theorem sF_row (hm : isMat M = true) (i : Nat) : sF M i M.length = sF M (i + 1) 0 := by
  have h8 := isMat_n hm
  funext x
  unfold sF
  by_cases h : x / 8 < i ∨ (x / 8 = i ∧ x % 8 < M.length)
  · rw [if_pos h, if_pos (by omega)]
  · rw [if_neg h]
    by_cases h2 : x / 8 < i + 1 ∨ (x / 8 = i + 1 ∧ x % 8 < 0)
    · rw [if_pos h2]
      unfold stF
      rw [ent_out hm (by omega)]; rfl
    · rw [if_neg h2]
theorem sF_all (hm : isMat M = true) : sF M M.length 0 = stF M := by
  have h8 := isMat_n hm
  funext x
  unfold sF
  by_cases h : x / 8 < M.length ∨ (x / 8 = M.length ∧ x % 8 < 0)
  · rw [if_pos h]
  · rw [if_neg h]
    unfold stF
    rw [ent_out hm (by omega)]; rfl
theorem sF_set {i j : Nat} (hi : i < 8) (hj : j < 8) : (bls (sF M i j) 64).set (i * 8 + j) (.bool (decide (0 < ent M i j))) = bls (sF M i (j + 1)) 64 := by
  rw [bls_set _ _ _ _ (by omega)]
  apply bls_ext
  intro x hx
  unfold sF
  by_cases e : x = i * 8 + j
  · rw [if_pos e, if_pos (by omega)]
    unfold stF
    rw [show x / 8 = i by omega, show x % 8 = j by omega]
  · rw [if_neg e]
    by_cases h : x / 8 < i ∨ (x / 8 = i ∧ x % 8 < j)
    · rw [if_pos h, if_pos (by omega)]
    · rw [if_neg h, if_neg (by omega)]
def HS (h : Heap) (M : List (List Int)) (f : Nat → Bool) : Heap := ⟨h.get, h.size, [.cells 0 65 (matC M), .cells 0 64 (bls (fun _ => false) 64), .cells 0 64 (bls f 64)]⟩
theorem c64_in (J : CallF) (h : Heap) {n i : Nat} (hi : i < n) (h8 : n ≤ 8) : Tr tbl J c64_l0 (fun s h' => h' = HS h M (sF M i 0) ∧ s.get [false] = .ptr h.size 0 65 ∧ s.get [true] = .ptr (h.size + 1) 0 64 ∧ s.get [false, false] = .ptr (h.size + 2) 0 64 ∧ s.get [true, false] = G i ∧ s.get [false, false, false] = G n ∧ s.get [true, false, false] = G i ∧ s.get [true, false, true] = G n ∧ s.get [false, true, true] = G ((0 : Nat) : Int)) (.exit 2) (fun s h' => h' = HS h M (sF M i n) ∧ s.get [false] = .ptr h.size 0 65 ∧ s.get [true] = .ptr (h.size + 1) 0 64 ∧ s.get [false, false] = .ptr (h.size + 2) 0 64 ∧ s.get [false, false, false] = G n ∧ s.get [true, false, false] = G i) := by
  refine Tr.rounds (P := fun j => (fun s h' => h' = HS h M (sF M i j) ∧ s.get [false] = .ptr h.size 0 65 ∧ s.get [true] = .ptr (h.size + 1) 0 64 ∧ s.get [false, false] = .ptr (h.size + 2) 0 64 ∧ s.get [true, false] = G i ∧ s.get [false, false, false] = G n ∧ s.get [true, false, false] = G i ∧ s.get [true, false, true] = G n ∧ s.get [false, true, true] = G j)) (M := n) (fun j hj => ?_) ?_ (by simp) 0 (by omega)
  · refine Tr.w fun s1 H1 hp R kR => W.trim ?_
    obtain ⟨rfl, q⟩ := hp
    have e1 := matC_at M (i := i) (j := j) (by omega) (by omega)
    have e2 := getI e1
    have l1 := matC_len M
    have l2 := bls_len (sF M i j) 64
    have es := sF_set (M := M) (i := i) (j := j) (by omega) (by omega)
    simp only [HS] at kR ⊢
    generalize ent M i j = a at *
    generalize matC M = cm at *
    generalize bls (sF M i (j + 1)) 64 = c1 at *
    generalize bls (sF M i j) 64 = c0 at *
    refine W.seq (W.chunk ?_)
    simp (disch := first | omega | exact getEq rfl | exact getO0 | exact Nat.le_of_ble_eq_true rfl) [c64_o6, size_mk, get_mk_lt, get_mk_ge, frameOf, Eff.app, Heap.setOwn, q]
    refine W.seq (W.chunk ?_)
    simp (disch := first | omega | exact getEq rfl | exact getO0 | exact Nat.le_of_ble_eq_true rfl) [size_mk, get_mk_lt, get_mk_ge, frameOf, Eff.app, Heap.setOwn, q]
    refine W.seq (W.block ?_)
    refine W.seq (W.chunk ?_)
    simp (disch := first | omega | exact getEq rfl | exact getO0 | exact Nat.le_of_ble_eq_true rfl) [c64_o7, size_mk, get_mk_lt, get_mk_ge, frameOf, Eff.app, Heap.setOwn, q]
    refine W.chunk ?_
    simp (disch := first | omega | exact getEq rfl | exact getO0 | exact Nat.le_of_ble_eq_true rfl) [c64_o8, size_mk, get_mk_lt, get_mk_ge, frameOf, Eff.app, Heap.setOwn, q, e1, e2, l1, l2, es, -evDraw_c, evDraw_0]
    refine W.chunk ?_
    simp (disch := first | omega | exact getEq rfl | exact getO0 | exact Nat.le_of_ble_eq_true rfl) [c64_o9, size_mk, get_mk_lt, get_mk_ge, frameOf, Eff.app, Heap.setOwn, q]
    exact kR _ _ (by simp [T.get, q])
  · refine Tr.w fun s1 H1 hp R kR => W.trim ?_
    obtain ⟨rfl, q⟩ := hp
    refine W.seq (W.chunk ?_)
    simp (disch := first | omega | exact getEq rfl | exact getO0 | exact Nat.le_of_ble_eq_true rfl) [c64_o6, size_mk, get_mk_lt, get_mk_ge, frameOf, Eff.app, Heap.setOwn, q]
    refine W.seq (W.chunk ?_)
    simp (disch := first | omega | exact getEq rfl | exact getO0 | exact Nat.le_of_ble_eq_true rfl) [size_mk, get_mk_lt, get_mk_ge, frameOf, Eff.app, Heap.setOwn, q]
    exact kR _ _ (by simp [T.get, q])
theorem c64_out (J : CallF) (h : Heap) (hm : isMat M = true) : Tr tbl J c64_l1 (fun s h' => h' = HS h M (sF M 0 0) ∧ s.get [false] = .ptr h.size 0 65 ∧ s.get [true] = .ptr (h.size + 1) 0 64 ∧ s.get [false, false] = .ptr (h.size + 2) 0 64 ∧ s.get [false, false, false] = G M.length ∧ s.get [true, false, false] = G ((0 : Nat) : Int)) (.exit 0) (fun s h' => h' = HS h M (sF M M.length 0) ∧ s.get [true] = .ptr (h.size + 1) 0 64 ∧ s.get [false, false] = .ptr (h.size + 2) 0 64) := by
  have h8 := isMat_n hm
  have e0 : (matC M)[0]? = some (G M.length) := rfl
  have e0' := getI e0
  have l1 := matC_len M
  refine Tr.rounds (P := fun i => (fun s h' => h' = HS h M (sF M i 0) ∧ s.get [false] = .ptr h.size 0 65 ∧ s.get [true] = .ptr (h.size + 1) 0 64 ∧ s.get [false, false] = .ptr (h.size + 2) 0 64 ∧ s.get [false, false, false] = G M.length ∧ s.get [true, false, false] = G i)) (M := M.length) (fun i hi => ?_) ?_ (by simp) 0 (by omega)
  · refine Tr.w fun s1 H1 hp R kR => W.trim ?_
    obtain ⟨rfl, q⟩ := hp
    have l0 := c64_in (M := M) J h hi h8.2
    rw [sF_row hm] at l0
    simp only [HS] at kR l0 ⊢
    generalize bls (sF M (i + 1) 0) 64 = c1 at *
    generalize bls (sF M i 0) 64 = c0 at *
    generalize matC M = cm at *
    generalize M.length = n at *
    refine W.seq (W.chunk ?_)
    simp (disch := first | omega | exact getEq rfl | exact getO0 | exact Nat.le_of_ble_eq_true rfl) [c64_o3, size_mk, get_mk_lt, get_mk_ge, frameOf, Eff.app, Heap.setOwn, q]
    refine W.seq (W.chunk ?_)
    simp (disch := first | omega | exact getEq rfl | exact getO0 | exact Nat.le_of_ble_eq_true rfl) [size_mk, get_mk_lt, get_mk_ge, frameOf, Eff.app, Heap.setOwn, q]
    refine W.seq (W.block ?_)
    refine W.seq (W.chunk ?_)
    simp (disch := first | omega | exact getEq rfl | exact getO0 | exact Nat.le_of_ble_eq_true rfl) [c64_o4, size_mk, get_mk_lt, get_mk_ge, frameOf, Eff.app, Heap.setOwn, q]
    refine W.seq (W.chunk ?_)
    simp (disch := first | omega | exact getEq rfl | exact getO0 | exact Nat.le_of_ble_eq_true rfl) [c64_o5, size_mk, get_mk_lt, get_mk_ge, frameOf, Eff.app, Heap.setOwn, q, e0, e0', l1]
    refine W.block ?_
    refine W.use (l0) (by simp (disch := first | omega | exact getEq rfl | exact getO0 | exact Nat.le_of_ble_eq_true rfl) [size_mk, get_mk_lt, get_mk_ge, frameOf, Eff.app, Heap.setOwn, q]) fun s1 H1 hp => ?_
    obtain ⟨rfl, q⟩ := hp
    try simp only [thenW_n, thenW_e, thenW_r, blkW_n, blkW_e, blkW_r, if_true]
    refine W.chunk ?_
    simp (disch := first | omega | exact getEq rfl | exact getO0 | exact Nat.le_of_ble_eq_true rfl) [c64_o10, size_mk, get_mk_lt, get_mk_ge, frameOf, Eff.app, Heap.setOwn, q]
    exact kR _ _ (by simp [T.get, q])
  · refine Tr.w fun s1 H1 hp R kR => W.trim ?_
    obtain ⟨rfl, q⟩ := hp
    refine W.seq (W.chunk ?_)
    simp (disch := first | omega | exact getEq rfl | exact getO0 | exact Nat.le_of_ble_eq_true rfl) [c64_o3, size_mk, get_mk_lt, get_mk_ge, frameOf, Eff.app, Heap.setOwn, q]
    refine W.seq (W.chunk ?_)
    simp (disch := first | omega | exact getEq rfl | exact getO0 | exact Nat.le_of_ble_eq_true rfl) [size_mk, get_mk_lt, get_mk_ge, frameOf, Eff.app, Heap.setOwn, q]
    exact kR _ _ (by simp [T.get, q])
theorem c64_ok (J : CallF) (hJ : ∀ a h, J 64 a h = none) (h : Heap) (hm : isMat M = true) : CallsTo tbl J 64 [.agg (matC M)] h (.agg (bls (stF M) 64), [], false) := by
  refine Tr.fnv (cf := c64) (e := .ret) (s := T.set .leaf [] (.agg (matC M))) (by decide) rfl (hJ _ _) rfl rfl (bls_flat _ _) (by simp) ?_
  have h8 := isMat_n hm
  have rp := bls_rep 64
  have l1 := matC_len M
  have lz := bls_len (fun _ => false) 64
  have e0 : (matC M)[0]? = some (G M.length) := rfl
  have e0' := getI e0
  refine Tr.w fun s1 H1 hp R kR => ?_
  obtain ⟨rfl, rfl⟩ := hp
  have q : True := trivial
  refine W.seq (W.chunk ?_)
  simp (disch := first | omega | exact getEq rfl | exact getO0 | exact Nat.le_of_ble_eq_true rfl) [-List.reduceReplicate, c64_o0, size_mk, get_mk_lt, get_mk_ge, frameOf, Eff.app, Heap.setOwn, q, l1, rp, frameOf]
  refine W.seq (W.chunk ?_)
  simp (disch := first | omega | exact getEq rfl | exact getO0 | exact Nat.le_of_ble_eq_true rfl) [-List.reduceReplicate, c64_o1, size_mk, get_mk_lt, get_mk_ge, frameOf, Eff.app, Heap.setOwn, q, rp]
  refine W.assoc ?_
  refine W.seq (W.chunk ?_)
  simp (disch := first | omega | exact getEq rfl | exact getO0 | exact Nat.le_of_ble_eq_true rfl) [-List.reduceReplicate, c64_o2, size_mk, get_mk_lt, get_mk_ge, frameOf, Eff.app, Heap.setOwn, q, e0, e0', l1]
  refine W.seq (W.block ?_)
  refine W.use (c64_out J h hm) (by simp (disch := first | omega | exact getEq rfl | exact getO0 | exact Nat.le_of_ble_eq_true rfl) [-List.reduceReplicate, size_mk, get_mk_lt, get_mk_ge, frameOf, Eff.app, Heap.setOwn, q, HS, sF_0, lz]) fun s1 H1 hp => ?_
  obtain ⟨rfl, q⟩ := hp
  try simp only [thenW_n, thenW_e, thenW_r, blkW_n, blkW_e, blkW_r, if_true]
  simp only [HS, sF_all hm] at *
  have lf := bls_len (stF M) 64
  generalize hcf : bls (stF M) 64 = cf at *
  generalize hcz : bls (fun _ => false) 64 = cz at *
  have et : cf.take 64 = cf := List.take_of_length_le (by omega)
  have ep : putAt cz 0 cf = cf := putAt_all _ _ (by omega)
  refine W.seq (W.chunk ?_)
  simp (disch := first | omega | exact getEq rfl | exact getO0 | exact Nat.le_of_ble_eq_true rfl) [-List.reduceReplicate, c64_o11, size_mk, get_mk_lt, get_mk_ge, frameOf, Eff.app, Heap.setOwn, q, et, ep, lf, lz]
  refine W.ret ?_
  try simp only [thenW_n, thenW_e, thenW_r, blkW_n, blkW_e, blkW_r, if_true]
  exact kR _ _ (by simp [T.get, c64, evRess, evRes, loadA, get_mk_ge, takeA, et, lf, one])
end

/-! ### What is known so far -/
def Good64 (args : List AV) (h : Heap) (v : AV) (own : List AObj) : Prop := ∀ M, isMat M = true → args = [.agg (matC M)] → own = [] ∧ v = .agg (bls (stF M) 64)
noncomputable def T4 : CallF := addX tbl T3 64 Good64
theorem t4 : Sound Go.Proofs.Try.prog T4 := Sound.addX follows ok t3 (by decide) Good64
abbrev K64 (J : CallF) : Prop := ∀ (h : Heap) (M : List (List Int)), isMat M = true → J 64 [.agg (matC M)] h = some (.agg (bls (stF M) 64), [], false)
theorem k64 : K64 T4 := fun h M hm => by
  obtain ⟨v', own', e', g⟩ := addX_some (tbl := tbl) (I := T3) (f := 64) (Good := Good64) (args := [.agg (matC M)]) (h := h) ⟨_, _, c64_ok T3 (fun _ _ => by
    simp (disch := decide) only [T3, T2, T1, R21, R20, R19, R18, R17, R16, R15, R14, R13, R12, R11, R10, R9, R8, R7, R6, R5, R4, R3, R2, R1, addI_ne, addX_ne, addV_ne]; rfl) h hm, fun M' hm' e => by
    simp only [List.cons.injEq, AV.agg.injEq, and_true] at e
    rw [matC_inj hm hm' e]; exact ⟨rfl, rfl⟩⟩
  obtain ⟨o1, o2⟩ := g M hm rfl
  subst o1 o2
  exact e'

/-! ### leads -/
section
variable {M : List (List Int)}
/-- The diagonal, as far as i. -/
def dF (M : List (List Int)) (i x : Nat) : Bool := stF M x || decide (x / 8 = x % 8 ∧ x / 8 < i)
/-- Ways by numbers less than k. -/
def wsh (M : List (List Int)) : Nat → Nat → Bool
  | 0, x => dF M M.length x
  | k + 1, x => wsh M k x || (wsh M k (x / 8 * 8 + k) && wsh M k (k * 8 + x % 8))
def ldF (M : List (List Int)) : Nat → Bool := wsh M M.length
end
def Good67 (args : List AV) (h : Heap) (v : AV) (own : List AObj) : Prop := ∀ M, isMat M = true → args = [.agg (matC M)] → own = [] ∧ v = .agg (bls (ldF M) 64)
noncomputable def T5 : CallF := addX tbl T4 67 Good67
theorem t5 : Sound Go.Proofs.Try.prog T5 := Sound.addX follows ok t4 (by decide) Good67
end Go.Proofs.Ytjeemgaoonapgaa.Ev
