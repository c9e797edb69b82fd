/-
  The power 0, and the product of two squares. No condition.
-/
import Derived.Test.YtjeemgaoonapgaaRExp2
set_option linter.unusedVariables false
set_option linter.unusedSimpArgs false
namespace Go.Proofs.Ytjeemgaoonapgaa.Ev
open Go Go.AEv

attribute [local simp] evFunc initS evOps_c evTrim_c evSkip_c evExit_c evRet_c evSeq_c evCond_c evBlock_c evDraw_c runOps_n runOps_c exec_n exec_g pure1_c act AOpd.ev T.get T.set T.put evBin evUn forceT_eq forceV_eq forceL_eq evRess evRes one keep runFP_n runFP_c app_none AV.flats AV.flat came_some List.getElem?_cons_zero List.getElem?_cons_succ beqT wrapI idxI tdivI tmodI decT decF ibT ibF inT inF evScope_c if_pos if_neg Cm_some thenW_n thenW_e thenW_r blkW_n blkW_e blkW_r goI kn putAt AV.cells fillA loadA takeA mk Eff.isAll Eff.isNone Eff.commutes Eff.spares okPair apart eqAgg fits LK.fits allEq aveq eqk mmA

theorem sq_get (f : Nat → Int) {i : Nat} (hi : i < 64) {x : Int} (e : f i = x) : (sq f)[i]? = some (G x) := by rw [sq_at f hi, e]

/-! ### one -/
def onF (i x : Nat) : Int := if x / 8 = x % 8 ∧ x / 8 < i then 1 else 0
theorem onF_0 : onF 0 = fun _ => 0 := by
  funext x; unfold onF; rw [if_neg (by omega)]
theorem onF_set {i : Nat} (hi : i < 8) : (sq (onF i)).set (i * 8 + i) (G 1) = sq (onF (i + 1)) := by
  rw [sq_set _ _ _ (by omega)]
  apply sq_ext
  intro x hx
  unfold onF
  by_cases e : x = i * 8 + i
  · rw [if_pos e, if_pos (by omega)]
  · rw [if_neg e]
    by_cases c : x / 8 = x % 8 ∧ x / 8 < i
    · rw [if_pos c, if_pos (by omega)]
    · rw [if_neg c, if_neg (by omega)]
section
variable {M : List (List Int)}
def HO (h : Heap) (M : List (List Int)) (f : Nat → Int) : Heap := ⟨h.get, h.size, [.cells 0 65 (matC M), .cells 0 64 (sq fun _ => 0), .cells 0 64 (sq f)]⟩
theorem c72_in (J : CallF) (h : Heap) {n : Nat} (h8 : n ≤ 8) : Tr tbl J c72_l0 (fun s h' => h' = HO h M (onF 0) ∧ s.get [true] = .ptr (h.size + 1) 0 64 ∧ s.get [false, false] = .ptr (h.size + 2) 0 64 ∧ s.get [true, true] = G n ∧ s.get [false, false, false] = G ((0 : Nat) : Int)) (.exit 0) (fun s h' => h' = HO h M (onF n) ∧ s.get [true] = .ptr (h.size + 1) 0 64 ∧ s.get [false, false] = .ptr (h.size + 2) 0 64) := by
  refine Tr.rounds (P := fun i => (fun s h' => h' = HO h M (onF i) ∧ s.get [true] = .ptr (h.size + 1) 0 64 ∧ s.get [false, false] = .ptr (h.size + 2) 0 64 ∧ s.get [true, true] = G n ∧ s.get [false, false, false] = G i)) (M := n) (fun i hi => ?_) ?_ (by simp) 0 (by omega)
  · refine Tr.w fun s1 H1 hp R kR => W.trim ?_
    obtain ⟨rfl, q⟩ := hp
    have es := onF_set (i := i) (by omega)
    have l0 := sq_len (onF i)
    simp only [HO] at kR ⊢
    generalize sq (onF (i + 1)) = c1 at *
    generalize sq (onF i) = c0 at *
    generalize matC M = cm at *
    refine W.seq (W.chunk ?_)
    simp (disch := first | omega | exact getEq rfl | exact getO0 | exact Nat.le_of_ble_eq_true rfl) [c72_o3, size_mk, get_mk_lt, get_mk_ge, frameOf, Eff.app, Heap.setOwn, q]
    refine W.seq (W.chunk ?_)
    simp (disch := first | omega | exact getEq rfl | exact getO0 | exact Nat.le_of_ble_eq_true rfl) [size_mk, get_mk_lt, get_mk_ge, frameOf, Eff.app, Heap.setOwn, q]
    refine W.seq (W.block ?_)
    refine W.seq (W.chunk ?_)
    simp (disch := first | omega | exact getEq rfl | exact getO0 | exact Nat.le_of_ble_eq_true rfl) [c72_o4, size_mk, get_mk_lt, get_mk_ge, frameOf, Eff.app, Heap.setOwn, q]
    refine W.chunk ?_
    simp (disch := first | omega | exact getEq rfl | exact getO0 | exact Nat.le_of_ble_eq_true rfl) [c72_o5, size_mk, get_mk_lt, get_mk_ge, frameOf, Eff.app, Heap.setOwn, q, l0, es]
    refine W.chunk ?_
    simp (disch := first | omega | exact getEq rfl | exact getO0 | exact Nat.le_of_ble_eq_true rfl) [c72_o6, size_mk, get_mk_lt, get_mk_ge, frameOf, Eff.app, Heap.setOwn, q]
    exact kR _ _ (by simp [T.get, q])
  · refine Tr.w fun s1 H1 hp R kR => W.trim ?_
    obtain ⟨rfl, q⟩ := hp
    refine W.seq (W.chunk ?_)
    simp (disch := first | omega | exact getEq rfl | exact getO0 | exact Nat.le_of_ble_eq_true rfl) [c72_o3, size_mk, get_mk_lt, get_mk_ge, frameOf, Eff.app, Heap.setOwn, q]
    refine W.seq (W.chunk ?_)
    simp (disch := first | omega | exact getEq rfl | exact getO0 | exact Nat.le_of_ble_eq_true rfl) [size_mk, get_mk_lt, get_mk_ge, frameOf, Eff.app, Heap.setOwn, q]
    exact kR _ _ (by simp [T.get, q])
theorem c72_ok (J : CallF) (hJ : ∀ a h, J 72 a h = none) (h : Heap) (hm : isMat M = true) : CallsTo tbl J 72 [.agg (matC M)] h (.agg (sq (onF M.length)), [], false) := by
  refine Tr.fnv (cf := c72) (e := .ret) (s := T.set .leaf [] (.agg (matC M))) (by decide) rfl (hJ _ _) rfl rfl (sq_flat _) (by simp) ?_
  have h8 := isMat_n hm
  have lo := c72_in (M := M) J h h8.2
  have rp := sq_rep
  have l1 := matC_len M
  have lz := sq_len fun _ => 0
  have e0 : (matC M)[0]? = some (G M.length) := rfl
  have e0' := getI e0
  refine Tr.w fun s1 H1 hp R kR => ?_
  obtain ⟨rfl, rfl⟩ := hp
  have q : True := trivial
  refine W.seq (W.chunk ?_)
  simp (disch := first | omega | exact getEq rfl | exact getO0 | exact Nat.le_of_ble_eq_true rfl) [-List.reduceReplicate, c72_o0, size_mk, get_mk_lt, get_mk_ge, frameOf, Eff.app, Heap.setOwn, q, l1, rp, frameOf]
  refine W.seq (W.chunk ?_)
  simp (disch := first | omega | exact getEq rfl | exact getO0 | exact Nat.le_of_ble_eq_true rfl) [-List.reduceReplicate, c72_o1, size_mk, get_mk_lt, get_mk_ge, frameOf, Eff.app, Heap.setOwn, q, rp]
  refine W.assoc ?_
  refine W.seq (W.chunk ?_)
  simp (disch := first | omega | exact getEq rfl | exact getO0 | exact Nat.le_of_ble_eq_true rfl) [-List.reduceReplicate, c72_o2, size_mk, get_mk_lt, get_mk_ge, frameOf, Eff.app, Heap.setOwn, q, e0, e0', l1]
  refine W.seq (W.block ?_)
  refine W.use (lo) (by simp (disch := first | omega | exact getEq rfl | exact getO0 | exact Nat.le_of_ble_eq_true rfl) [-List.reduceReplicate, size_mk, get_mk_lt, get_mk_ge, frameOf, Eff.app, Heap.setOwn, q, HO, onF_0, lz]) fun s1 H1 hp => ?_
  obtain ⟨rfl, q⟩ := hp
  try simp only [thenW_n, thenW_e, thenW_r, blkW_n, blkW_e, blkW_r, if_true]
  simp only [HO] at *
  have lf := sq_len (onF M.length)
  generalize hcf : sq (onF M.length) = cf at *
  generalize hcz : (sq fun _ => 0) = cz at *
  have et : cf.take 64 = cf := List.take_of_length_le (by omega)
  have ep : putAt cz 0 cf = cf := putAt_all _ _ (by omega)
  refine W.seq (W.chunk ?_)
  simp (disch := first | omega | exact getEq rfl | exact getO0 | exact Nat.le_of_ble_eq_true rfl) [-List.reduceReplicate, c72_o7, size_mk, get_mk_lt, get_mk_ge, frameOf, Eff.app, Heap.setOwn, q, et, ep, lf, lz]
  refine W.ret ?_
  try simp only [thenW_n, thenW_e, thenW_r, blkW_n, blkW_e, blkW_r, if_true]
  exact kR _ _ (by simp [T.get, c72, evRess, evRes, loadA, get_mk_ge, takeA, et, lf, one])

/-! ### product -/
abbrev mostP : Int := 1152921504606846976
def dt (M : List (List Int)) (X : Nat → Int) (i j : Nat) : Nat → Int
  | 0 => 0
  | k + 1 => dt M X i j k + X (i * 8 + k) * ent M k j
/-- The product. -/
def prF (M : List (List Int)) (X : Nat → Int) (x : Nat) : Int := if x / 8 < M.length then dt M X (x / 8) (x % 8) M.length else 0
def oP (M : List (List Int)) (X : Nat → Int) (i j k x : Nat) : Int := if x / 8 < i then dt M X (x / 8) (x % 8) M.length else if x / 8 = i then (if x % 8 < j then dt M X i (x % 8) M.length else if x % 8 = j then dt M X i j k else 0) else 0
theorem dt_out (hm : isMat M = true) (X : Nat → Int) (i : Nat) {j : Nat} (hj : M.length ≤ j) : ∀ k, dt M X i j k = 0
  | 0 => rfl
  | k + 1 => by
    show dt M X i j k + X (i * 8 + k) * ent M k j = 0
    rw [dt_out hm X i hj k, ent_out hm (.inr hj), Int.mul_zero]; rfl
theorem dt_nn (hm : isMat M = true) {X : Nat → Int} (hX : ∀ x, 0 ≤ X x) (i j : Nat) : ∀ k, 0 ≤ dt M X i j k
  | 0 => Int.le_refl _
  | k + 1 => by
    have a := dt_nn hm hX i j k
    have b := Int.mul_nonneg (hX (i * 8 + k)) (ent_bd hm k j).1
    show 0 ≤ dt M X i j k + X (i * 8 + k) * ent M k j
    omega
theorem dt_mono (hm : isMat M = true) {X : Nat → Int} (hX : ∀ x, 0 ≤ X x) (i j : Nat) : ∀ (d k : Nat), dt M X i j k ≤ dt M X i j (k + d)
  | 0, k => Int.le_refl _
  | d + 1, k => by
    have a := dt_mono hm hX i j d k
    have b := Int.mul_nonneg (hX (i * 8 + (k + d))) (ent_bd hm (k + d) j).1
    show dt M X i j k ≤ dt M X i j (k + d) + X (i * 8 + (k + d)) * ent M (k + d) j
    omega
theorem oP_0 (X : Nat → Int) : oP M X 0 0 0 = fun _ => 0 := by
  funext x; unfold oP
  rw [if_neg (by omega)]
  split
  · rw [if_neg (by omega)]; split <;> rfl
  · rfl
theorem oP_k (X : Nat → Int) (i j : Nat) : oP M X i j M.length = oP M X i (j + 1) 0 := by
  funext x; unfold oP
  by_cases h1 : x / 8 < i
  · rw [if_pos h1, if_pos h1]
  · rw [if_neg h1, if_neg h1]
    by_cases h2 : x / 8 = i
    · rw [if_pos h2, if_pos h2]
      by_cases h3 : x % 8 < j
      · rw [if_pos h3, if_pos (show x % 8 < j + 1 by omega)]
      · rw [if_neg h3]
        by_cases h4 : x % 8 = j
        · rw [if_pos h4, if_pos (show x % 8 < j + 1 by omega), h4]
        · rw [if_neg h4, if_neg (show ¬ x % 8 < j + 1 by omega)]
          split <;> rfl
    · rw [if_neg h2, if_neg h2]
theorem oP_j (hm : isMat M = true) (X : Nat → Int) (i : Nat) : oP M X i M.length 0 = oP M X (i + 1) 0 0 := by
  have h8 := isMat_n hm
  funext x; unfold oP
  by_cases h1 : x / 8 < i
  · rw [if_pos h1, if_pos (show x / 8 < i + 1 by omega)]
  · rw [if_neg h1]
    by_cases h2 : x / 8 = i
    · rw [if_pos h2, if_pos (show x / 8 < i + 1 by omega)]
      by_cases h3 : x % 8 < M.length
      · rw [if_pos h3, h2]
      · rw [if_neg h3, dt_out hm X (x / 8) (j := x % 8) (by omega)]
        split <;> rfl
    · rw [if_neg h2, if_neg (show ¬ x / 8 < i + 1 by omega)]
      split
      · rw [if_neg (show ¬ x % 8 < 0 by omega)]; split <;> rfl
      · rfl
theorem oP_all (X : Nat → Int) : oP M X M.length 0 0 = prF M X := by
  funext x; unfold oP prF
  by_cases h1 : x / 8 < M.length
  · rw [if_pos h1, if_pos h1]
  · rw [if_neg h1, if_neg h1]
    split
    · rw [if_neg (show ¬ x % 8 < 0 by omega)]; split <;> rfl
    · rfl
theorem oP_at {X : Nat → Int} {i j k : Nat} (hj : j < 8) : oP M X i j k (i * 8 + j) = dt M X i j k := by
  unfold oP
  rw [if_neg (by omega), if_pos (by omega), if_neg (by omega), if_pos (by omega)]
theorem oP_set {X : Nat → Int} {i j k : Nat} (hi : i < 8) (hj : j < 8) : (sq (oP M X i j k)).set (i * 8 + j) (G (dt M X i j k + X (i * 8 + k) * ent M k j)) = sq (oP M X i j (k + 1)) := by
  rw [sq_set _ _ _ (by omega)]
  apply sq_ext
  intro x hx
  unfold oP
  by_cases e : x = i * 8 + j
  · rw [if_pos e, if_neg (by omega), if_pos (by omega), if_neg (by omega), if_pos (by omega)]; rfl
  · rw [if_neg e]
    by_cases h1 : x / 8 < i
    · rw [if_pos h1, if_pos h1]
    · rw [if_neg h1, if_neg h1]
      by_cases h2 : x / 8 = i
      · rw [if_pos h2, if_pos h2]
        by_cases h3 : x % 8 < j
        · rw [if_pos h3, if_pos h3]
        · rw [if_neg h3, if_neg h3, if_neg (by omega), if_neg (by omega)]
      · rw [if_neg h2, if_neg h2]
def entS (M : List (List Int)) (x : Nat) : Int := ent M (x / 8) (x % 8)
def HP (h : Heap) (M : List (List Int)) (X : Nat → Int) (f : Nat → Int) : Heap := ⟨h.get, h.size, [.cells 0 65 (matC M), .cells 0 64 (sq X), .cells 0 64 (sq (entS M)), .cells 0 64 (sq fun _ => 0), .cells 0 64 (sq f)]⟩
structure P73 (k n i j : Nat) (cx cy c0 c1 cz : List AV) (a b D p Q : Int) : Prop where
  hk : k < n ∧ i < n ∧ j < n ∧ n ≤ 8
  e1 : cx[i * 8 + k]? = some (G a)
  e2 : cy[k * 8 + j]? = some (G b)
  e3 : c0[i * 8 + j]? = some (G D)
  e4 : c1[i * 8 + j]? = some (G (D + p))
  es : c0.set (i * 8 + j) (G (D + p)) = c1
  l3 : c0.length = 64
  l5 : c1.length = 64
  hz : cz.length = 64
  ha : 0 ≤ a ∧ a ≤ 1152921504606846976
  hb : 0 ≤ b ∧ b ≤ 9
  hD : 0 ≤ D ∧ D ≤ 1152921504606846976
  hp : a * b = p
  hp0 : 0 ≤ p
  hQ : 1152921504606846976 / b = Q
  hQ0 : 0 ≤ Q ∧ Q ≤ 1152921504606846976
  hq : 0 < b → (Q < a ↔ 1152921504606846976 < p)
  hb0 : b = 0 → p = 0
theorem c73_f1 (J : CallF) (h : Heap) {k n i j : Nat} {cm cx cy c0 c1 cz : List AV} {a b D p Q : Int} (P : P73 k n i j cx cy c0 c1 cz a b D p Q) (ez : putAt cz 0 cz = cz) (hcz : List.replicate 64 (AV.int .i64 0) = cz) (big : 1152921504606846976 < p) :
    Tr tbl J (.trim [[false, false], [true, false], [false, true], [true, true], [true, false, false], [false, true, false], [true, true, false], [false, false, false, false], [true, false, false, false], [true, false, true, false], [false, true, true, false], [false, true, false, true], [true, true, false, true]] c73_b0) (fun s h' => h' = ⟨h.get, h.size, [.cells 0 65 cm, .cells 0 64 cx, .cells 0 64 cy, .cells 0 64 cz, .cells 0 64 c0]⟩ ∧ s.get [false, false] = .ptr h.size 0 65 ∧ s.get [true, false] = .ptr (h.size + 1) 0 64 ∧ s.get [false, true] = .ptr (h.size + 2) 0 64 ∧ s.get [true, true] = .ptr (h.size + 3) 0 64 ∧ s.get [true, false, false] = .ptr (h.size + 4) 0 64 ∧ s.get [false, true, false] = G i ∧ s.get [true, true, false] = G j ∧ s.get [false, false, false, false] = G n ∧ s.get [true, false, false, false] = G i ∧ s.get [true, false, true, false] = G n ∧ s.get [false, true, true, false] = G j ∧ s.get [false, true, false, true] = G n ∧ s.get [true, true, false, true] = G k) .ret
      (fun s h' => h' = ⟨h.get, h.size, [.cells 0 65 cm, .cells 0 64 cx, .cells 0 64 cy, .cells 0 64 cz, .cells 0 64 c0]⟩ ∧ s.get [true, true] = .ptr (h.size + 3) 0 64 ∧ s.get [false, false, false] = .bool false) := by
  obtain ⟨hk, e1, e2, e3, e4, es, l3, l5, l4, ha, hb, hD, hp, hp0, hQ, hQ0, hq, hb0⟩ := P
  have e1' := getI e1
  have e2' := getI e2
  have bp : 0 < b := by
    rcases Int.lt_or_le 0 b with c | c
    · exact c
    · have := hb0 (by omega); omega
  have hlt := (hq bp).2 big
  refine Tr.w fun s1 H1 hp R kR => W.trim ?_
  obtain ⟨rfl, q⟩ := hp
  refine W.seq (W.chunk ?_)
  simp (disch := first | omega | exact getEq rfl | exact getO0 | exact Nat.le_of_ble_eq_true rfl) [-List.reduceReplicate, c73_o9, size_mk, get_mk_lt, get_mk_ge, frameOf, Eff.app, Heap.setOwn, q]
  refine W.seq (W.chunk ?_)
  simp (disch := first | omega | exact getEq rfl | exact getO0 | exact Nat.le_of_ble_eq_true rfl) [-List.reduceReplicate, size_mk, get_mk_lt, get_mk_ge, frameOf, Eff.app, Heap.setOwn, q]
  refine W.seq (W.block ?_)
  refine W.seq (W.chunk ?_)
  simp (disch := first | omega | exact getEq rfl | exact getO0 | exact Nat.le_of_ble_eq_true rfl) [-List.reduceReplicate, c73_o10, size_mk, get_mk_lt, get_mk_ge, frameOf, Eff.app, Heap.setOwn, q]
  refine W.seq (W.chunk ?_)
  simp (disch := first | omega | exact getEq rfl | exact getO0 | exact Nat.le_of_ble_eq_true rfl) [-List.reduceReplicate, c73_o11, size_mk, get_mk_lt, get_mk_ge, frameOf, Eff.app, Heap.setOwn, q, e1, e1', e2, e2', -evDraw_c, evDraw_0]
  refine W.assoc ?_
  refine W.seq (W.chunk ?_)
  simp (disch := first | omega | exact getEq rfl | exact getO0 | exact Nat.le_of_ble_eq_true rfl) [-List.reduceReplicate, c73_o12, size_mk, get_mk_lt, get_mk_ge, frameOf, Eff.app, Heap.setOwn, q, hQ]
  refine W.seq (W.chunk ?_)
  simp (disch := first | omega | exact getEq rfl | exact getO0 | exact Nat.le_of_ble_eq_true rfl) [-List.reduceReplicate, c73_o13, size_mk, get_mk_lt, get_mk_ge, frameOf, Eff.app, Heap.setOwn, q, hcz, ez, l4]
  exact kR _ _ (by simp [T.get, q])
theorem c73_f2 (J : CallF) (h : Heap) {k n i j : Nat} {cm cx cy c0 c1 cz : List AV} {a b D p Q : Int} (P : P73 k n i j cx cy c0 c1 cz a b D p Q) (ez : putAt cz 0 cz = cz) (hcz : List.replicate 64 (AV.int .i64 0) = cz) (big : ¬ 1152921504606846976 < p) (big2 : 1152921504606846976 < D + p) :
    Tr tbl J (.trim [[false, false], [true, false], [false, true], [true, true], [true, false, false], [false, true, false], [true, true, false], [false, false, false, false], [true, false, false, false], [true, false, true, false], [false, true, true, false], [false, true, false, true], [true, true, false, true]] c73_b0) (fun s h' => h' = ⟨h.get, h.size, [.cells 0 65 cm, .cells 0 64 cx, .cells 0 64 cy, .cells 0 64 cz, .cells 0 64 c0]⟩ ∧ s.get [false, false] = .ptr h.size 0 65 ∧ s.get [true, false] = .ptr (h.size + 1) 0 64 ∧ s.get [false, true] = .ptr (h.size + 2) 0 64 ∧ s.get [true, true] = .ptr (h.size + 3) 0 64 ∧ s.get [true, false, false] = .ptr (h.size + 4) 0 64 ∧ s.get [false, true, false] = G i ∧ s.get [true, true, false] = G j ∧ s.get [false, false, false, false] = G n ∧ s.get [true, false, false, false] = G i ∧ s.get [true, false, true, false] = G n ∧ s.get [false, true, true, false] = G j ∧ s.get [false, true, false, true] = G n ∧ s.get [true, true, false, true] = G k) .ret
      (fun s h' => h' = ⟨h.get, h.size, [.cells 0 65 cm, .cells 0 64 cx, .cells 0 64 cy, .cells 0 64 cz, .cells 0 64 c1]⟩ ∧ s.get [true, true] = .ptr (h.size + 3) 0 64 ∧ s.get [false, false, false] = .bool false) := by
  obtain ⟨hk, e1, e2, e3, e4, es, l3, l5, l4, ha, hb, hD, hp, hp0, hQ, hQ0, hq, hb0⟩ := P
  have e1' := getI e1
  have e2' := getI e2
  have e3' := getI e3
  have e4' := getI e4
  have bp : 0 < b := by
    rcases Int.lt_or_le 0 b with c | c
    · exact c
    · have := hb0 (by omega); omega
  have hlt := (hq bp).1
  have hle : a ≤ Q := by
    rcases Int.lt_or_le Q a with c | c
    · have := hlt c; omega
    · exact c
  clear hq hlt
  refine Tr.w fun s1 H1 hp R kR => W.trim ?_
  obtain ⟨rfl, q⟩ := hp
  refine W.seq (W.chunk ?_)
  simp (disch := first | omega | exact getEq rfl | exact getO0 | exact Nat.le_of_ble_eq_true rfl) [-List.reduceReplicate, c73_o9, size_mk, get_mk_lt, get_mk_ge, frameOf, Eff.app, Heap.setOwn, q]
  refine W.seq (W.chunk ?_)
  simp (disch := first | omega | exact getEq rfl | exact getO0 | exact Nat.le_of_ble_eq_true rfl) [-List.reduceReplicate, size_mk, get_mk_lt, get_mk_ge, frameOf, Eff.app, Heap.setOwn, q]
  refine W.seq (W.block ?_)
  refine W.seq (W.chunk ?_)
  simp (disch := first | omega | exact getEq rfl | exact getO0 | exact Nat.le_of_ble_eq_true rfl) [-List.reduceReplicate, c73_o10, size_mk, get_mk_lt, get_mk_ge, frameOf, Eff.app, Heap.setOwn, q]
  refine W.seq (W.chunk ?_)
  simp (disch := first | omega | exact getEq rfl | exact getO0 | exact Nat.le_of_ble_eq_true rfl) [-List.reduceReplicate, c73_o11, size_mk, get_mk_lt, get_mk_ge, frameOf, Eff.app, Heap.setOwn, q, e1, e1', e2, e2', -evDraw_c, evDraw_0]
  refine W.assoc ?_
  refine W.seq (W.chunk ?_)
  simp (disch := first | omega | exact getEq rfl | exact getO0 | exact Nat.le_of_ble_eq_true rfl) [-List.reduceReplicate, c73_o12, size_mk, get_mk_lt, get_mk_ge, frameOf, Eff.app, Heap.setOwn, q, hQ]
  refine W.seq (W.chunk ?_)
  simp (disch := first | omega | exact getEq rfl | exact getO0 | exact Nat.le_of_ble_eq_true rfl) [-List.reduceReplicate, c73_o13, size_mk, get_mk_lt, get_mk_ge, frameOf, Eff.app, Heap.setOwn, q]
  refine W.seq (W.chunk ?_)
  simp (disch := first | omega | exact getEq rfl | exact getO0 | exact Nat.le_of_ble_eq_true rfl) [-List.reduceReplicate, c73_o14, size_mk, get_mk_lt, get_mk_ge, frameOf, Eff.app, Heap.setOwn, q, e3, e3', l3, hp, es, -evDraw_c, evDraw_0]
  refine W.seq (W.chunk ?_)
  simp (disch := first | omega | exact getEq rfl | exact getO0 | exact Nat.le_of_ble_eq_true rfl) [-List.reduceReplicate, c73_o15, size_mk, get_mk_lt, get_mk_ge, frameOf, Eff.app, Heap.setOwn, q, e4, e4', l5]
  refine W.chunk ?_
  simp (disch := first | omega | exact getEq rfl | exact getO0 | exact Nat.le_of_ble_eq_true rfl) [-List.reduceReplicate, c73_o16, size_mk, get_mk_lt, get_mk_ge, frameOf, Eff.app, Heap.setOwn, q, hcz, ez, l4]
  exact kR _ _ (by simp [T.get, q])
theorem c73_st (J : CallF) (h : Heap) {k n i j : Nat} {cm cx cy c0 c1 cz : List AV} {a b D p Q : Int} (P : P73 k n i j cx cy c0 c1 cz a b D p Q) (big : ¬ 1152921504606846976 < p) (big2 : ¬ 1152921504606846976 < D + p) :
    Tr tbl J (.trim [[false, false], [true, false], [false, true], [true, true], [true, false, false], [false, true, false], [true, true, false], [false, false, false, false], [true, false, false, false], [true, false, true, false], [false, true, true, false], [false, true, false, true], [true, true, false, true]] c73_b0) (fun s h' => h' = ⟨h.get, h.size, [.cells 0 65 cm, .cells 0 64 cx, .cells 0 64 cy, .cells 0 64 cz, .cells 0 64 c0]⟩ ∧ s.get [false, false] = .ptr h.size 0 65 ∧ s.get [true, false] = .ptr (h.size + 1) 0 64 ∧ s.get [false, true] = .ptr (h.size + 2) 0 64 ∧ s.get [true, true] = .ptr (h.size + 3) 0 64 ∧ s.get [true, false, false] = .ptr (h.size + 4) 0 64 ∧ s.get [false, true, false] = G i ∧ s.get [true, true, false] = G j ∧ s.get [false, false, false, false] = G n ∧ s.get [true, false, false, false] = G i ∧ s.get [true, false, true, false] = G n ∧ s.get [false, true, true, false] = G j ∧ s.get [false, true, false, true] = G n ∧ s.get [true, true, false, true] = G k) .normal
      (fun s h' => h' = ⟨h.get, h.size, [.cells 0 65 cm, .cells 0 64 cx, .cells 0 64 cy, .cells 0 64 cz, .cells 0 64 c1]⟩ ∧ s.get [false, false] = .ptr h.size 0 65 ∧ s.get [true, false] = .ptr (h.size + 1) 0 64 ∧ s.get [false, true] = .ptr (h.size + 2) 0 64 ∧ s.get [true, true] = .ptr (h.size + 3) 0 64 ∧ s.get [true, false, false] = .ptr (h.size + 4) 0 64 ∧ s.get [false, true, false] = G i ∧ s.get [true, true, false] = G j ∧ s.get [false, false, false, false] = G n ∧ s.get [true, false, false, false] = G i ∧ s.get [true, false, true, false] = G n ∧ s.get [false, true, true, false] = G j ∧ s.get [false, true, false, true] = G n ∧ s.get [true, true, false, true] = G ((k + 1 : Nat) : Int)) := by
  obtain ⟨hk, e1, e2, e3, e4, es, l3, l5, l4, ha, hb, hD, hp, hp0, hQ, hQ0, hq, hb0⟩ := P
  have e1' := getI e1
  have e2' := getI e2
  have e3' := getI e3
  have e4' := getI e4
  by_cases bp : 0 < b
  · have hlt := (hq bp).1
    have hle : a ≤ Q := by
      rcases Int.lt_or_le Q a with c | c
      · have := hlt c; omega
      · exact c
    clear hq hlt
    refine Tr.w fun s1 H1 hp R kR => W.trim ?_
    obtain ⟨rfl, q⟩ := hp
    refine W.seq (W.chunk ?_)
    simp (disch := first | omega | exact getEq rfl | exact getO0 | exact Nat.le_of_ble_eq_true rfl) [c73_o9, size_mk, get_mk_lt, get_mk_ge, frameOf, Eff.app, Heap.setOwn, q]
    refine W.seq (W.chunk ?_)
    simp (disch := first | omega | exact getEq rfl | exact getO0 | exact Nat.le_of_ble_eq_true rfl) [size_mk, get_mk_lt, get_mk_ge, frameOf, Eff.app, Heap.setOwn, q]
    refine W.seq (W.block ?_)
    refine W.seq (W.chunk ?_)
    simp (disch := first | omega | exact getEq rfl | exact getO0 | exact Nat.le_of_ble_eq_true rfl) [c73_o10, size_mk, get_mk_lt, get_mk_ge, frameOf, Eff.app, Heap.setOwn, q]
    refine W.seq (W.chunk ?_)
    simp (disch := first | omega | exact getEq rfl | exact getO0 | exact Nat.le_of_ble_eq_true rfl) [c73_o11, size_mk, get_mk_lt, get_mk_ge, frameOf, Eff.app, Heap.setOwn, q, e1, e1', e2, e2', -evDraw_c, evDraw_0]
    refine W.assoc ?_
    refine W.seq (W.chunk ?_)
    simp (disch := first | omega | exact getEq rfl | exact getO0 | exact Nat.le_of_ble_eq_true rfl) [c73_o12, size_mk, get_mk_lt, get_mk_ge, frameOf, Eff.app, Heap.setOwn, q, hQ]
    refine W.seq (W.chunk ?_)
    simp (disch := first | omega | exact getEq rfl | exact getO0 | exact Nat.le_of_ble_eq_true rfl) [c73_o13, size_mk, get_mk_lt, get_mk_ge, frameOf, Eff.app, Heap.setOwn, q]
    refine W.seq (W.chunk ?_)
    simp (disch := first | omega | exact getEq rfl | exact getO0 | exact Nat.le_of_ble_eq_true rfl) [c73_o14, size_mk, get_mk_lt, get_mk_ge, frameOf, Eff.app, Heap.setOwn, q, e3, e3', l3, hp, es, -evDraw_c, evDraw_0]
    refine W.seq (W.chunk ?_)
    simp (disch := first | omega | exact getEq rfl | exact getO0 | exact Nat.le_of_ble_eq_true rfl) [c73_o15, size_mk, get_mk_lt, get_mk_ge, frameOf, Eff.app, Heap.setOwn, q, e4, e4', l5]
    refine W.chunk ?_
    simp (disch := first | omega | exact getEq rfl | exact getO0 | exact Nat.le_of_ble_eq_true rfl) [c73_o16, size_mk, get_mk_lt, get_mk_ge, frameOf, Eff.app, Heap.setOwn, q]
    refine W.chunk ?_
    simp (disch := first | omega | exact getEq rfl | exact getO0 | exact Nat.le_of_ble_eq_true rfl) [c73_o17, size_mk, get_mk_lt, get_mk_ge, frameOf, Eff.app, Heap.setOwn, q]
    exact kR _ _ (by simp [T.get, q])
  · refine Tr.w fun s1 H1 hp R kR => W.trim ?_
    obtain ⟨rfl, q⟩ := hp
    refine W.seq (W.chunk ?_)
    simp (disch := first | omega | exact getEq rfl | exact getO0 | exact Nat.le_of_ble_eq_true rfl) [c73_o9, size_mk, get_mk_lt, get_mk_ge, frameOf, Eff.app, Heap.setOwn, q]
    refine W.seq (W.chunk ?_)
    simp (disch := first | omega | exact getEq rfl | exact getO0 | exact Nat.le_of_ble_eq_true rfl) [size_mk, get_mk_lt, get_mk_ge, frameOf, Eff.app, Heap.setOwn, q]
    refine W.seq (W.block ?_)
    refine W.seq (W.chunk ?_)
    simp (disch := first | omega | exact getEq rfl | exact getO0 | exact Nat.le_of_ble_eq_true rfl) [c73_o10, size_mk, get_mk_lt, get_mk_ge, frameOf, Eff.app, Heap.setOwn, q]
    refine W.seq (W.chunk ?_)
    simp (disch := first | omega | exact getEq rfl | exact getO0 | exact Nat.le_of_ble_eq_true rfl) [c73_o11, size_mk, get_mk_lt, get_mk_ge, frameOf, Eff.app, Heap.setOwn, q, e1, e1', e2, e2', -evDraw_c, evDraw_0]
    refine W.assoc ?_
    refine W.seq (W.chunk ?_)
    simp (disch := first | omega | exact getEq rfl | exact getO0 | exact Nat.le_of_ble_eq_true rfl) [c73_o12, size_mk, get_mk_lt, get_mk_ge, frameOf, Eff.app, Heap.setOwn, q, hQ]
    refine W.seq (W.chunk ?_)
    simp (disch := first | omega | exact getEq rfl | exact getO0 | exact Nat.le_of_ble_eq_true rfl) [c73_o13, size_mk, get_mk_lt, get_mk_ge, frameOf, Eff.app, Heap.setOwn, q]
    refine W.seq (W.chunk ?_)
    simp (disch := first | omega | exact getEq rfl | exact getO0 | exact Nat.le_of_ble_eq_true rfl) [c73_o14, size_mk, get_mk_lt, get_mk_ge, frameOf, Eff.app, Heap.setOwn, q, e3, e3', l3, hp, es, -evDraw_c, evDraw_0]
    refine W.seq (W.chunk ?_)
    simp (disch := first | omega | exact getEq rfl | exact getO0 | exact Nat.le_of_ble_eq_true rfl) [c73_o15, size_mk, get_mk_lt, get_mk_ge, frameOf, Eff.app, Heap.setOwn, q, e4, e4', l5]
    refine W.chunk ?_
    simp (disch := first | omega | exact getEq rfl | exact getO0 | exact Nat.le_of_ble_eq_true rfl) [c73_o16, size_mk, get_mk_lt, get_mk_ge, frameOf, Eff.app, Heap.setOwn, q]
    refine W.chunk ?_
    simp (disch := first | omega | exact getEq rfl | exact getO0 | exact Nat.le_of_ble_eq_true rfl) [c73_o17, size_mk, get_mk_lt, get_mk_ge, frameOf, Eff.app, Heap.setOwn, q]
    exact kR _ _ (by simp [T.get, q])
theorem c73_k (J : CallF) (h : Heap) (hm : isMat M = true) {X : Nat → Int} (hX : ∀ x, 0 ≤ X x ∧ X x ≤ mostP) {i j : Nat} (hi : i < M.length) (hj : j < M.length) : ∀ d k, k + d = M.length → dt M X i j k ≤ mostP →
    (dt M X i j M.length ≤ mostP → Tr tbl J c73_l0 (fun s h' => h' = HP h M X (oP M X i j k) ∧ s.get [false, false] = .ptr h.size 0 65 ∧ s.get [true, false] = .ptr (h.size + 1) 0 64 ∧ s.get [false, true] = .ptr (h.size + 2) 0 64 ∧ s.get [true, true] = .ptr (h.size + 3) 0 64 ∧ s.get [true, false, false] = .ptr (h.size + 4) 0 64 ∧ s.get [false, true, false] = G i ∧ s.get [true, true, false] = G j ∧ s.get [false, false, false, false] = G M.length ∧ s.get [true, false, false, false] = G i ∧ s.get [true, false, true, false] = G M.length ∧ s.get [false, true, true, false] = G j ∧ s.get [false, true, false, true] = G M.length ∧ s.get [true, true, false, true] = G k) (.exit 4) (fun s h' => h' = HP h M X (oP M X i j M.length) ∧ s.get [false, false] = .ptr h.size 0 65 ∧ s.get [true, false] = .ptr (h.size + 1) 0 64 ∧ s.get [false, true] = .ptr (h.size + 2) 0 64 ∧ s.get [true, true] = .ptr (h.size + 3) 0 64 ∧ s.get [true, false, false] = .ptr (h.size + 4) 0 64 ∧ s.get [false, true, false] = G i ∧ s.get [false, false, false, false] = G M.length ∧ s.get [true, false, false, false] = G i ∧ s.get [true, false, true, false] = G M.length ∧ s.get [false, true, true, false] = G j)) ∧
    (mostP < dt M X i j M.length → Tr tbl J c73_l0 (fun s h' => h' = HP h M X (oP M X i j k) ∧ s.get [false, false] = .ptr h.size 0 65 ∧ s.get [true, false] = .ptr (h.size + 1) 0 64 ∧ s.get [false, true] = .ptr (h.size + 2) 0 64 ∧ s.get [true, true] = .ptr (h.size + 3) 0 64 ∧ s.get [true, false, false] = .ptr (h.size + 4) 0 64 ∧ s.get [false, true, false] = G i ∧ s.get [true, true, false] = G j ∧ s.get [false, false, false, false] = G M.length ∧ s.get [true, false, false, false] = G i ∧ s.get [true, false, true, false] = G M.length ∧ s.get [false, true, true, false] = G j ∧ s.get [false, true, false, true] = G M.length ∧ s.get [true, true, false, true] = G k) .ret (fun s h' => (∃ f, h' = HP h M X f) ∧ s.get [true, true] = .ptr (h.size + 3) 0 64 ∧ s.get [false, false, false] = .bool false)) := by
  have h8 := isMat_n hm
  intro d
  induction d with
  | zero =>
    intro k hk hd
    obtain rfl : k = M.length := by omega
    refine ⟨fun _ => Tr.out ?_ (by simp), fun c => by omega⟩
    simp only [HP]
    generalize M.length = n at *
    refine Tr.w fun s1 H1 hp R kR => W.trim ?_
    obtain ⟨rfl, q⟩ := hp
    refine W.seq (W.chunk ?_)
    simp (disch := first | omega | exact getEq rfl | exact getO0 | exact Nat.le_of_ble_eq_true rfl) [c73_o9, size_mk, get_mk_lt, get_mk_ge, frameOf, Eff.app, Heap.setOwn, q]
    refine W.seq (W.chunk ?_)
    simp (disch := first | omega | exact getEq rfl | exact getO0 | exact Nat.le_of_ble_eq_true rfl) [size_mk, get_mk_lt, get_mk_ge, frameOf, Eff.app, Heap.setOwn, q]
    exact kR _ _ (by simp [T.get, q])
  | succ d ih =>
    intro k hk hd
    have nn := dt_nn hm (fun x => (hX x).1) i j k
    have hmp : mostP = 1152921504606846976 := rfl
    have mono := dt_mono hm (fun x => (hX x).1) i j d (k + 1)
    rw [show k + 1 + d = M.length by omega] at mono
    have ds : dt M X i j (k + 1) = dt M X i j k + X (i * 8 + k) * ent M k j := rfl
    have ih := ih (k + 1) (by omega)
    have hx := hX (i * 8 + k)
    have hb := ent_bd hm k j
    have P : P73 k M.length i j (sq X) (sq (entS M)) (sq (oP M X i j k)) (sq (oP M X i j (k + 1))) (sq fun _ => 0) (X (i * 8 + k)) (ent M k j) (dt M X i j k) (X (i * 8 + k) * ent M k j) (mostP / ent M k j) := {
      hk := by omega
      e1 := sq_get X (by omega) rfl
      e2 := sq_get (entS M) (by omega) (by unfold entS; rw [show (k * 8 + j) / 8 = k by omega, show (k * 8 + j) % 8 = j by omega])
      e3 := sq_get _ (by omega) (oP_at (by omega))
      e4 := sq_get _ (by omega) (oP_at (by omega))
      es := oP_set (by omega) (by omega)
      l3 := sq_len _
      l5 := sq_len _
      hz := sq_len _
      ha := hx
      hb := hb
      hD := ⟨nn, hd⟩
      hp := rfl
      hp0 := Int.mul_nonneg hx.1 hb.1
      hQ := rfl
      hQ0 := ⟨Int.ediv_nonneg (by decide) hb.1, Int.ediv_le_self _ (by decide)⟩
      hq := fun c => by
        have := Int.le_ediv_iff_mul_le (a := X (i * 8 + k)) (b := mostP) c
        constructor
        · intro q
          apply Int.lt_of_not_ge
          intro q2
          have := this.2 q2
          omega
        · intro q
          apply Int.lt_of_not_ge
          intro q2
          have := this.1 q2
          omega
      hb0 := fun c => by rw [c, Int.mul_zero] }
    have hp0 := P.hp0
    rw [ds] at mono
    rw [ds] at ih
    have rp := sq_rep
    have ez : putAt (sq fun _ => 0) 0 (sq fun _ => 0) = sq fun _ => 0 := putAt_all _ _ rfl
    by_cases big : mostP < X (i * 8 + k) * ent M k j
    · have big' : mostP < dt M X i j M.length := by omega
      exact ⟨fun c => absurd big' (Int.not_lt.2 c), fun _ => Tr.out (Tr.post (fun s h' q => ⟨⟨_, q.1⟩, q.2⟩) (c73_f1 J h P ez rp big)) (by simp)⟩
    · by_cases big2 : mostP < dt M X i j k + X (i * 8 + k) * ent M k j
      · have big' : mostP < dt M X i j M.length := by omega
        exact ⟨fun c => absurd big' (Int.not_lt.2 c), fun _ => Tr.out (Tr.post (fun s h' q => ⟨⟨_, q.1⟩, q.2⟩) (c73_f2 J h P ez rp big big2)) (by simp)⟩
      · obtain ⟨ih1, ih2⟩ := ih (Int.not_lt.1 big2)
        have step := c73_st (cm := matC M) J h P big big2
        exact ⟨fun q => Tr.next step (ih1 q), fun q => Tr.next step (ih2 q)⟩
end

end Go.Proofs.Ytjeemgaoonapgaa.Ev
