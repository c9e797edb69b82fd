/-
  What times answers: the product of two relations. No condition.
-/
import Derived.Test.YtjeemgaoonapgaaSCheck
import Derived.Test.YtjeemgaoonapgaaEvW
set_option linter.unusedVariables false
set_option linter.unusedSimpArgs false
namespace Go.Proofs.Ytjeemgaoonapgaa.Ev
open Go Go.AEv

attribute [local simp] evFunc initS evOps_c evTrim_c evSkip_c evExit_c evRet_c evSeq_c evCond_c evBlock_c evDraw_c runOps_n runOps_c exec_n exec_g pure1_c act AOpd.ev T.get T.set T.put evBin evUn forceT_eq forceV_eq forceL_eq evRess evRes one keep runFP_n runFP_c app_none AV.flats AV.flat came_some List.getElem?_cons_zero List.getElem?_cons_succ beqT wrapI idxI tdivI tmodI decT decF ibT ibF inT inF evScope_c if_pos if_neg Cm_some thenW_n thenW_e thenW_r blkW_n blkW_e blkW_r goI kn putAt AV.cells fillA loadA takeA mk Eff.isAll Eff.isNone Eff.commutes Eff.spares okPair apart eqAgg fits LK.fits allEq aveq eqk mmA

abbrev G (n : Int) : AV := .int .i64 n
/-- The cells of a relation, or of a list of bools. -/
def bls (f : Nat → Bool) (n : Nat) : List AV := (List.range n).map fun x => .bool (f x)
theorem bls_len (f : Nat → Bool) (n : Nat) : (bls f n).length = n := by simp [bls]
theorem bls_at (f : Nat → Bool) {n i : Nat} (h : i < n) : (bls f n)[i]? = some (.bool (f i)) := by simp [bls, h]
theorem bls_set (f : Nat → Bool) (n i : Nat) (b : Bool) (h : i < n) : (bls f n).set i (.bool b) = bls (fun x => if x = i then b else f x) n := by
  apply List.ext_getElem?
  intro x
  by_cases hx : x < n
  · rw [bls_at _ hx]
    by_cases e : x = i
    · subst e; rw [List.getElem?_set_self (by rw [bls_len]; exact h), if_pos rfl]
    · rw [List.getElem?_set_ne (fun e' => e e'.symm), bls_at _ hx, if_neg e]
  · rw [List.getElem?_eq_none (by simp [bls_len]; omega), List.getElem?_eq_none (by simp [bls_len]; omega)]
theorem bls_ext (f g : Nat → Bool) (n : Nat) (h : ∀ x, x < n → f x = g x) : bls f n = bls g n := by
  unfold bls; apply List.map_congr_left; intro x hx; rw [h x (by simpa using hx)]
theorem bls_rep (n : Nat) : List.replicate n (AV.bool false) = bls (fun _ => false) n := by
  apply List.ext_getElem?
  intro x
  by_cases hx : x < n
  · rw [bls_at _ hx, List.getElem?_replicate, if_pos hx]
  · rw [List.getElem?_eq_none (by simp; omega), List.getElem?_eq_none (by simp [bls_len]; omega)]

theorem putAt_all : ∀ (c z : List AV), c.length = z.length → putAt z 0 c = c := fun c z h => by
  apply List.ext_getElem?
  intro i
  rw [putAt_get _ _ _ _ (by omega)]
  by_cases hi : i < c.length
  · rw [if_pos ⟨by omega, by omega⟩]; rfl
  · rw [if_neg (by omega), List.getElem?_eq_none (by omega), List.getElem?_eq_none (by omega)]
/-- The first k numbers in between looked at. -/
def pr (r q : Nat → Bool) (i j : Nat) : Nat → Bool
  | 0 => false
  | k + 1 => pr r q i j k || (r (i * 8 + k) && q (k * 8 + j))
def tmf (r q : Nat → Bool) (x : Nat) : Bool := pr r q (x / 8) (x % 8) 8
def outF (r q : Nat → Bool) (i j k x : Nat) : Bool := if x < i * 8 + j then tmf r q x else if x = i * 8 + j then pr r q i j k else false
theorem outF_nj (r q : Nat → Bool) (i j : Nat) (hj : j < 8) : outF r q i j 8 = outF r q i (j + 1) 0 := by
  funext x
  unfold outF
  by_cases h1 : x < i * 8 + j
  · rw [if_pos h1, if_pos (by omega)]
  · rw [if_neg h1]
    by_cases h2 : x = i * 8 + j
    · rw [if_pos h2, if_pos (by omega)]
      unfold tmf
      rw [show x / 8 = i by omega, show x % 8 = j by omega]
    · rw [if_neg h2, if_neg (by omega)]
      by_cases h3 : x = i * 8 + (j + 1)
      · rw [if_pos h3]; rfl
      · rw [if_neg h3]
theorem outF_ni (r q : Nat → Bool) (i : Nat) : outF r q i 8 0 = outF r q (i + 1) 0 0 := by
  funext x
  unfold outF
  rw [show (i + 1) * 8 + 0 = i * 8 + 8 by omega]; rfl

section
variable {r q : Nat → Bool}
def HT (h : Heap) (r q o : Nat → Bool) : Heap := ⟨h.get, h.size, [.cells 0 64 (bls r 64), .cells 0 64 (bls q 64), .cells 0 64 (bls (fun _ => false) 64), .cells 0 64 (bls o 64)]⟩
abbrev L65a : List Path := [[true], [false, false], [true, false], [false, true], [true, true], [false, false, false], [false, true, false], [true, false, true], [false, false, false, false]]
abbrev L65b : List Path := [[true], [false, false], [true, false], [false, true], [true, true], [false, true, false], [true, false, true]]
abbrev L65c : List Path := [[true], [false, false], [true, false], [false, true], [false, true, false]]
theorem tm_11 (J : CallF) (h : Heap) {i j k : Nat} (hi : i < 8) (hj : j < 8) (hk : k < 8) {cr cs cz co : List AV} {b0 b1 b2 : Bool} (e0 : co[i * 8 + j]? = some (.bool b0)) (e1 : cr[i * 8 + k]? = some (.bool b1)) (e2 : cs[k * 8 + j]? = some (.bool b2)) (lo : co.length = 64) :
    Tr tbl J c65_o11 (fun s h' => s.get [true] = .ptr h.size 0 64 ∧ s.get [false, false] = .ptr (h.size + 1) 0 64 ∧ s.get [true, false] = .ptr (h.size + 2) 0 64 ∧ s.get [false, true] = .ptr (h.size + 3) 0 64 ∧ s.get [true, true] = G i ∧ s.get [false, false, false] = G j ∧ s.get [true, false, false] = G k ∧ s.get [false, true, false] = G i ∧ s.get [true, false, true] = G j ∧ s.get [false, false, false, false] = G k ∧ h' = ⟨h.get, h.size, [.cells 0 64 cr, .cells 0 64 cs, .cells 0 64 cz, .cells 0 64 co]⟩) .normal
      (fun s h' => s.get [true] = .ptr h.size 0 64 ∧ s.get [false, false] = .ptr (h.size + 1) 0 64 ∧ s.get [true, false] = .ptr (h.size + 2) 0 64 ∧ s.get [false, true] = .ptr (h.size + 3) 0 64 ∧ s.get [true, true] = G i ∧ s.get [false, false, false] = G j ∧ s.get [false, true, false] = G i ∧ s.get [true, false, true] = G j ∧ s.get [false, false, false, false] = G k ∧ h' = ⟨h.get, h.size, [.cells 0 64 cr, .cells 0 64 cs, .cells 0 64 cz, .cells 0 64 (co.set (i * 8 + j) (.bool (b0 || (b1 && b2))))]⟩) := by
  have e0' : ∀ h : i * 8 + j < co.length, co[i * 8 + j] = .bool b0 := fun h => by rw [List.getElem?_eq_getElem h] at e0; exact Option.some.inj e0
  have e1' : ∀ h : i * 8 + k < cr.length, cr[i * 8 + k] = .bool b1 := fun h => by rw [List.getElem?_eq_getElem h] at e1; exact Option.some.inj e1
  have e2' : ∀ h : k * 8 + j < cs.length, cs[k * 8 + j] = .bool b2 := fun h => by rw [List.getElem?_eq_getElem h] at e2; exact Option.some.inj e2
  have hl : i * 8 + j < co.length := by omega
  have t : Tr tbl J (c65_o11) (fun s h' => s.get [true] = .ptr h.size 0 64 ∧ s.get [false, false] = .ptr (h.size + 1) 0 64 ∧ s.get [true, false] = .ptr (h.size + 2) 0 64 ∧ s.get [false, true] = .ptr (h.size + 3) 0 64 ∧ s.get [true, true] = G i ∧ s.get [false, false, false] = G j ∧ s.get [true, false, false] = G k ∧ s.get [false, true, false] = G i ∧ s.get [true, false, true] = G j ∧ s.get [false, false, false, false] = G k ∧ h' = ⟨h.get, h.size, [.cells 0 64 cr, .cells 0 64 cs, .cells 0 64 cz, .cells 0 64 co]⟩) .normal (fun s h' => s.get [true] = .ptr h.size 0 64 ∧ s.get [false, false] = .ptr (h.size + 1) 0 64 ∧ s.get [true, false] = .ptr (h.size + 2) 0 64 ∧ s.get [false, true] = .ptr (h.size + 3) 0 64 ∧ s.get [true, true] = G i ∧ s.get [false, false, false] = G j ∧ s.get [false, true, false] = G i ∧ s.get [true, false, true] = G j ∧ s.get [false, false, false, false] = G k ∧ h' = ⟨h.get, h.size, [.cells 0 64 cr, .cells 0 64 cs, .cells 0 64 cz, .cells 0 64 (co.set (i * 8 + j) (.bool (b0 || (b1 && b2))))]⟩) := Tr.region fun s h hp => by
    obtain ⟨g0, g1, g2, g3, g4, g5, g6, g7, g8, g9, rfl⟩ := hp
    cases b0 <;> cases b1 <;> cases b2 <;> simp (disch := first | omega | exact getEq rfl | exact getO0 | exact Nat.le_of_ble_eq_true rfl) [c65_o11, size_mk, get_mk_lt, get_mk_ge, frameOf, Eff.app, Heap.setOwn, g0, g1, g2, g3, g4, g5, g6, g7, g8, g9, e0, e1, e2, e0', e1', e2']
  exact t
theorem tm_step (J : CallF) (h : Heap) {i j k : Nat} (hi : i < 8) (hj : j < 8) (hk : k < 8) :
    Tr tbl J (.trim L65a c65_b0) (fun s h' => s.get [true] = .ptr h.size 0 64 ∧ s.get [false, false] = .ptr (h.size + 1) 0 64 ∧ s.get [true, false] = .ptr (h.size + 2) 0 64 ∧ s.get [false, true] = .ptr (h.size + 3) 0 64 ∧ s.get [true, true] = G i ∧ s.get [false, false, false] = G j ∧ s.get [false, true, false] = G i ∧ s.get [true, false, true] = G j ∧ s.get [false, false, false, false] = G k ∧ h' = HT h r q (outF r q i j k)) .normal
      (fun s h' => s.get [true] = .ptr h.size 0 64 ∧ s.get [false, false] = .ptr (h.size + 1) 0 64 ∧ s.get [true, false] = .ptr (h.size + 2) 0 64 ∧ s.get [false, true] = .ptr (h.size + 3) 0 64 ∧ s.get [true, true] = G i ∧ s.get [false, false, false] = G j ∧ s.get [false, true, false] = G i ∧ s.get [true, false, true] = G j ∧ s.get [false, false, false, false] = G ((k + 1 : Nat) : Int) ∧ h' = HT h r q (outF r q i j (k + 1))) := by
  have t11 := tm_11 J h hi hj hk (cz := bls (fun _ => false) 64) (bls_at (outF r q i j k) (show i * 8 + j < 64 by omega)) (bls_at r (show i * 8 + k < 64 by omega)) (bls_at q (show k * 8 + j < 64 by omega)) (bls_len _ _)
  have eo : outF r q i j k (i * 8 + j) = pr r q i j k := by unfold outF; rw [if_neg (by omega), if_pos rfl]
  rw [eo] at t11
  have es : (bls (outF r q i j k) 64).set (i * 8 + j) (.bool (pr r q i j k || (r (i * 8 + k) && q (k * 8 + j)))) = bls (outF r q i j (k + 1)) 64 := by
    rw [bls_set _ _ _ _ (by omega)]
    apply bls_ext
    intro x hx
    unfold outF
    by_cases e : x = i * 8 + j
    · rw [if_pos e, if_neg (by omega), if_pos e]; rfl
    · rw [if_neg e]
      by_cases e2 : x < i * 8 + j
      · rw [if_pos e2, if_pos e2]
      · rw [if_neg e2, if_neg e, if_neg e2, if_neg e]
  rw [es] at t11
  unfold HT
  generalize bls (outF r q i j (k + 1)) 64 = o1 at *
  generalize bls (outF r q i j k) 64 = o0 at *
  generalize bls r 64 = cr at *
  generalize bls q 64 = cs at *
  generalize bls (fun _ => false) 64 = cz at *
  have ta : Tr tbl J ((.trim L65a (.seq c65_o9 (.cond (.s [true, false, false, false]) .skip (.exit 4))))) (fun s h' => s.get [true] = .ptr h.size 0 64 ∧ s.get [false, false] = .ptr (h.size + 1) 0 64 ∧ s.get [true, false] = .ptr (h.size + 2) 0 64 ∧ s.get [false, true] = .ptr (h.size + 3) 0 64 ∧ s.get [true, true] = G i ∧ s.get [false, false, false] = G j ∧ s.get [false, true, false] = G i ∧ s.get [true, false, true] = G j ∧ s.get [false, false, false, false] = G k ∧ h' = ⟨h.get, h.size, [.cells 0 64 cr, .cells 0 64 cs, .cells 0 64 cz, .cells 0 64 o0]⟩) .normal (fun s h' => s.get [true] = .ptr h.size 0 64 ∧ s.get [false, false] = .ptr (h.size + 1) 0 64 ∧ s.get [true, false] = .ptr (h.size + 2) 0 64 ∧ s.get [false, true] = .ptr (h.size + 3) 0 64 ∧ s.get [true, true] = G i ∧ s.get [false, false, false] = G j ∧ s.get [false, true, false] = G i ∧ s.get [true, false, true] = G j ∧ s.get [false, false, false, false] = G k ∧ h' = ⟨h.get, h.size, [.cells 0 64 cr, .cells 0 64 cs, .cells 0 64 cz, .cells 0 64 o0]⟩) := Tr.region fun s h hp => by
    obtain ⟨g0, g1, g2, g3, g4, g5, g6, g7, g8, rfl⟩ := hp
    simp (disch := first | omega | exact getEq rfl | exact getO0 | exact Nat.le_of_ble_eq_true rfl) [c65_o9, size_mk, get_mk_lt, get_mk_ge, frameOf, Eff.app, Heap.setOwn, g0, g1, g2, g3, g4, g5, g6, g7, g8]
  have tb : Tr tbl J (c65_o10) (fun s h' => s.get [true] = .ptr h.size 0 64 ∧ s.get [false, false] = .ptr (h.size + 1) 0 64 ∧ s.get [true, false] = .ptr (h.size + 2) 0 64 ∧ s.get [false, true] = .ptr (h.size + 3) 0 64 ∧ s.get [true, true] = G i ∧ s.get [false, false, false] = G j ∧ s.get [false, true, false] = G i ∧ s.get [true, false, true] = G j ∧ s.get [false, false, false, false] = G k ∧ h' = ⟨h.get, h.size, [.cells 0 64 cr, .cells 0 64 cs, .cells 0 64 cz, .cells 0 64 o0]⟩) .normal (fun s h' => s.get [true] = .ptr h.size 0 64 ∧ s.get [false, false] = .ptr (h.size + 1) 0 64 ∧ s.get [true, false] = .ptr (h.size + 2) 0 64 ∧ s.get [false, true] = .ptr (h.size + 3) 0 64 ∧ s.get [true, true] = G i ∧ s.get [false, false, false] = G j ∧ s.get [true, false, false] = G k ∧ s.get [false, true, false] = G i ∧ s.get [true, false, true] = G j ∧ s.get [false, false, false, false] = G k ∧ h' = ⟨h.get, h.size, [.cells 0 64 cr, .cells 0 64 cs, .cells 0 64 cz, .cells 0 64 o0]⟩) := Tr.region fun s h hp => by
    obtain ⟨g0, g1, g2, g3, g4, g5, g6, g7, g8, rfl⟩ := hp
    simp (disch := first | omega | exact getEq rfl | exact getO0 | exact Nat.le_of_ble_eq_true rfl) [c65_o10, size_mk, get_mk_lt, get_mk_ge, frameOf, Eff.app, Heap.setOwn, g0, g1, g2, g3, g4, g5, g6, g7, g8]
  have te : Tr tbl J (c65_o12) (fun s h' => s.get [true] = .ptr h.size 0 64 ∧ s.get [false, false] = .ptr (h.size + 1) 0 64 ∧ s.get [true, false] = .ptr (h.size + 2) 0 64 ∧ s.get [false, true] = .ptr (h.size + 3) 0 64 ∧ s.get [true, true] = G i ∧ s.get [false, false, false] = G j ∧ s.get [false, true, false] = G i ∧ s.get [true, false, true] = G j ∧ s.get [false, false, false, false] = G k ∧ h' = ⟨h.get, h.size, [.cells 0 64 cr, .cells 0 64 cs, .cells 0 64 cz, .cells 0 64 o1]⟩) .normal (fun s h' => s.get [true] = .ptr h.size 0 64 ∧ s.get [false, false] = .ptr (h.size + 1) 0 64 ∧ s.get [true, false] = .ptr (h.size + 2) 0 64 ∧ s.get [false, true] = .ptr (h.size + 3) 0 64 ∧ s.get [true, true] = G i ∧ s.get [false, false, false] = G j ∧ s.get [false, true, false] = G i ∧ s.get [true, false, true] = G j ∧ s.get [false, false, false, false] = G ((k + 1 : Nat) : Int) ∧ h' = ⟨h.get, h.size, [.cells 0 64 cr, .cells 0 64 cs, .cells 0 64 cz, .cells 0 64 o1]⟩) := Tr.region fun s h hp => by
    obtain ⟨g0, g1, g2, g3, g4, g5, g6, g7, g8, rfl⟩ := hp
    simp (disch := first | omega | exact getEq rfl | exact getO0 | exact Nat.le_of_ble_eq_true rfl) [c65_o12, size_mk, get_mk_lt, get_mk_ge, frameOf, Eff.app, Heap.setOwn, g0, g1, g2, g3, g4, g5, g6, g7, g8]
  exact Tr.trim_assoc (Tr.trim_seq ta (Tr.seq (Tr.block_out (Tr.seq tb t11) (by simp)) te))
theorem tm_k (J : CallF) (h : Heap) {i j : Nat} (hi : i < 8) (hj : j < 8) :
    Tr tbl J (.seq c65_o8 (.block 4 c65_l0)) (fun s h' => s.get [true] = .ptr h.size 0 64 ∧ s.get [false, false] = .ptr (h.size + 1) 0 64 ∧ s.get [true, false] = .ptr (h.size + 2) 0 64 ∧ s.get [false, true] = .ptr (h.size + 3) 0 64 ∧ s.get [true, true] = G i ∧ s.get [false, false, false] = G j ∧ s.get [false, true, false] = G i ∧ s.get [true, false, true] = G j ∧ h' = HT h r q (outF r q i j 0)) .normal (fun s h' => s.get [true] = .ptr h.size 0 64 ∧ s.get [false, false] = .ptr (h.size + 1) 0 64 ∧ s.get [true, false] = .ptr (h.size + 2) 0 64 ∧ s.get [false, true] = .ptr (h.size + 3) 0 64 ∧ s.get [true, true] = G i ∧ s.get [false, true, false] = G i ∧ s.get [true, false, true] = G j ∧ h' = HT h r q (outF r q i j 8)) := by
  have t0 : Tr tbl J (c65_o8) (fun s h' => s.get [true] = .ptr h.size 0 64 ∧ s.get [false, false] = .ptr (h.size + 1) 0 64 ∧ s.get [true, false] = .ptr (h.size + 2) 0 64 ∧ s.get [false, true] = .ptr (h.size + 3) 0 64 ∧ s.get [true, true] = G i ∧ s.get [false, false, false] = G j ∧ s.get [false, true, false] = G i ∧ s.get [true, false, true] = G j ∧ h' = HT h r q (outF r q i j 0)) .normal (fun s h' => s.get [true] = .ptr h.size 0 64 ∧ s.get [false, false] = .ptr (h.size + 1) 0 64 ∧ s.get [true, false] = .ptr (h.size + 2) 0 64 ∧ s.get [false, true] = .ptr (h.size + 3) 0 64 ∧ s.get [true, true] = G i ∧ s.get [false, false, false] = G j ∧ s.get [false, true, false] = G i ∧ s.get [true, false, true] = G j ∧ s.get [false, false, false, false] = G ((0 : Nat) : Int) ∧ h' = HT h r q (outF r q i j 0)) := Tr.region fun s h hp => by
    obtain ⟨g0, g1, g2, g3, g4, g5, g6, g7, rfl⟩ := hp
    simp (disch := first | omega | exact getEq rfl | exact getO0 | exact Nat.le_of_ble_eq_true rfl) [c65_o8, size_mk, get_mk_lt, get_mk_ge, frameOf, Eff.app, Heap.setOwn, g0, g1, g2, g3, g4, g5, g6, g7]
  have t1 : Tr tbl J ((.trim L65a c65_b0)) (fun s h' => s.get [true] = .ptr h.size 0 64 ∧ s.get [false, false] = .ptr (h.size + 1) 0 64 ∧ s.get [true, false] = .ptr (h.size + 2) 0 64 ∧ s.get [false, true] = .ptr (h.size + 3) 0 64 ∧ s.get [true, true] = G i ∧ s.get [false, false, false] = G j ∧ s.get [false, true, false] = G i ∧ s.get [true, false, true] = G j ∧ s.get [false, false, false, false] = G ((8 : Nat) : Int) ∧ h' = HT h r q (outF r q i j 8)) (.exit 4) (fun s h' => s.get [true] = .ptr h.size 0 64 ∧ s.get [false, false] = .ptr (h.size + 1) 0 64 ∧ s.get [true, false] = .ptr (h.size + 2) 0 64 ∧ s.get [false, true] = .ptr (h.size + 3) 0 64 ∧ s.get [true, true] = G i ∧ s.get [false, true, false] = G i ∧ s.get [true, false, true] = G j ∧ h' = HT h r q (outF r q i j 8)) := Tr.region fun s h hp => by
    obtain ⟨g0, g1, g2, g3, g4, g5, g6, g7, g8, rfl⟩ := hp
    simp (disch := first | omega | exact getEq rfl | exact getO0 | exact Nat.le_of_ble_eq_true rfl) [c65_b0, c65_o9, size_mk, get_mk_lt, get_mk_ge, frameOf, Eff.app, Heap.setOwn, g0, g1, g2, g3, g4, g5, g6, g7, g8]
  exact Tr.seq t0 (Tr.block (Tr.rounds (P := fun k => (fun s h' => s.get [true] = .ptr h.size 0 64 ∧ s.get [false, false] = .ptr (h.size + 1) 0 64 ∧ s.get [true, false] = .ptr (h.size + 2) 0 64 ∧ s.get [false, true] = .ptr (h.size + 3) 0 64 ∧ s.get [true, true] = G i ∧ s.get [false, false, false] = G j ∧ s.get [false, true, false] = G i ∧ s.get [true, false, true] = G j ∧ s.get [false, false, false, false] = G k ∧ h' = HT h r q (outF r q i j k))) (M := 8) (fun k hk => tm_step J h hi hj hk) t1 (by simp) 0 (by omega)))
theorem tm_j (J : CallF) (h : Heap) {i : Nat} (hi : i < 8) :
    Tr tbl J (.seq c65_o5 (.block 2 c65_l1)) (fun s h' => s.get [true] = .ptr h.size 0 64 ∧ s.get [false, false] = .ptr (h.size + 1) 0 64 ∧ s.get [true, false] = .ptr (h.size + 2) 0 64 ∧ s.get [false, true] = .ptr (h.size + 3) 0 64 ∧ s.get [true, true] = G i ∧ s.get [false, true, false] = G i ∧ h' = HT h r q (outF r q i 0 0)) .normal (fun s h' => s.get [true] = .ptr h.size 0 64 ∧ s.get [false, false] = .ptr (h.size + 1) 0 64 ∧ s.get [true, false] = .ptr (h.size + 2) 0 64 ∧ s.get [false, true] = .ptr (h.size + 3) 0 64 ∧ s.get [false, true, false] = G i ∧ h' = HT h r q (outF r q i 8 0)) := by
  have t0 : Tr tbl J (c65_o5) (fun s h' => s.get [true] = .ptr h.size 0 64 ∧ s.get [false, false] = .ptr (h.size + 1) 0 64 ∧ s.get [true, false] = .ptr (h.size + 2) 0 64 ∧ s.get [false, true] = .ptr (h.size + 3) 0 64 ∧ s.get [true, true] = G i ∧ s.get [false, true, false] = G i ∧ h' = HT h r q (outF r q i 0 0)) .normal (fun s h' => s.get [true] = .ptr h.size 0 64 ∧ s.get [false, false] = .ptr (h.size + 1) 0 64 ∧ s.get [true, false] = .ptr (h.size + 2) 0 64 ∧ s.get [false, true] = .ptr (h.size + 3) 0 64 ∧ s.get [true, true] = G i ∧ s.get [false, true, false] = G i ∧ s.get [true, false, true] = G ((0 : Nat) : Int) ∧ h' = HT h r q (outF r q i 0 0)) := Tr.region fun s h hp => by
    obtain ⟨g0, g1, g2, g3, g4, g5, rfl⟩ := hp
    simp (disch := first | omega | exact getEq rfl | exact getO0 | exact Nat.le_of_ble_eq_true rfl) [c65_o5, size_mk, get_mk_lt, get_mk_ge, frameOf, Eff.app, Heap.setOwn, g0, g1, g2, g3, g4, g5]
  have t1 : Tr tbl J ((.trim L65b c65_b1)) (fun s h' => s.get [true] = .ptr h.size 0 64 ∧ s.get [false, false] = .ptr (h.size + 1) 0 64 ∧ s.get [true, false] = .ptr (h.size + 2) 0 64 ∧ s.get [false, true] = .ptr (h.size + 3) 0 64 ∧ s.get [true, true] = G i ∧ s.get [false, true, false] = G i ∧ s.get [true, false, true] = G ((8 : Nat) : Int) ∧ h' = HT h r q (outF r q i 8 0)) (.exit 2) (fun s h' => s.get [true] = .ptr h.size 0 64 ∧ s.get [false, false] = .ptr (h.size + 1) 0 64 ∧ s.get [true, false] = .ptr (h.size + 2) 0 64 ∧ s.get [false, true] = .ptr (h.size + 3) 0 64 ∧ s.get [false, true, false] = G i ∧ h' = HT h r q (outF r q i 8 0)) := Tr.region fun s h hp => by
    obtain ⟨g0, g1, g2, g3, g4, g5, g6, rfl⟩ := hp
    simp (disch := first | omega | exact getEq rfl | exact getO0 | exact Nat.le_of_ble_eq_true rfl) [c65_b1, c65_o6, size_mk, get_mk_lt, get_mk_ge, frameOf, Eff.app, Heap.setOwn, g0, g1, g2, g3, g4, g5, g6]
  refine Tr.seq t0 (Tr.block (Tr.rounds (P := fun j => (fun s h' => s.get [true] = .ptr h.size 0 64 ∧ s.get [false, false] = .ptr (h.size + 1) 0 64 ∧ s.get [true, false] = .ptr (h.size + 2) 0 64 ∧ s.get [false, true] = .ptr (h.size + 3) 0 64 ∧ s.get [true, true] = G i ∧ s.get [false, true, false] = G i ∧ s.get [true, false, true] = G j ∧ h' = HT h r q (outF r q i j 0))) (M := 8) (fun j hj => ?_) t1 (by simp) 0 (by omega)))
  have tk := tm_k (r := r) (q := q) J h hi hj
  rw [outF_nj r q i j hj] at tk
  have ta : Tr tbl J ((.trim L65b (.seq c65_o6 (.cond (.s [false, true, true]) .skip (.exit 2))))) (fun s h' => s.get [true] = .ptr h.size 0 64 ∧ s.get [false, false] = .ptr (h.size + 1) 0 64 ∧ s.get [true, false] = .ptr (h.size + 2) 0 64 ∧ s.get [false, true] = .ptr (h.size + 3) 0 64 ∧ s.get [true, true] = G i ∧ s.get [false, true, false] = G i ∧ s.get [true, false, true] = G j ∧ h' = HT h r q (outF r q i j 0)) .normal (fun s h' => s.get [true] = .ptr h.size 0 64 ∧ s.get [false, false] = .ptr (h.size + 1) 0 64 ∧ s.get [true, false] = .ptr (h.size + 2) 0 64 ∧ s.get [false, true] = .ptr (h.size + 3) 0 64 ∧ s.get [true, true] = G i ∧ s.get [false, true, false] = G i ∧ s.get [true, false, true] = G j ∧ h' = HT h r q (outF r q i j 0)) := Tr.region fun s h hp => by
    obtain ⟨g0, g1, g2, g3, g4, g5, g6, rfl⟩ := hp
    simp (disch := first | omega | exact getEq rfl | exact getO0 | exact Nat.le_of_ble_eq_true rfl) [c65_o6, size_mk, get_mk_lt, get_mk_ge, frameOf, Eff.app, Heap.setOwn, g0, g1, g2, g3, g4, g5, g6]
  have tb : Tr tbl J (c65_o7) (fun s h' => s.get [true] = .ptr h.size 0 64 ∧ s.get [false, false] = .ptr (h.size + 1) 0 64 ∧ s.get [true, false] = .ptr (h.size + 2) 0 64 ∧ s.get [false, true] = .ptr (h.size + 3) 0 64 ∧ s.get [true, true] = G i ∧ s.get [false, true, false] = G i ∧ s.get [true, false, true] = G j ∧ h' = HT h r q (outF r q i j 0)) .normal (fun s h' => s.get [true] = .ptr h.size 0 64 ∧ s.get [false, false] = .ptr (h.size + 1) 0 64 ∧ s.get [true, false] = .ptr (h.size + 2) 0 64 ∧ s.get [false, true] = .ptr (h.size + 3) 0 64 ∧ s.get [true, true] = G i ∧ s.get [false, false, false] = G j ∧ s.get [false, true, false] = G i ∧ s.get [true, false, true] = G j ∧ h' = HT h r q (outF r q i j 0)) := Tr.region fun s h hp => by
    obtain ⟨g0, g1, g2, g3, g4, g5, g6, rfl⟩ := hp
    simp (disch := first | omega | exact getEq rfl | exact getO0 | exact Nat.le_of_ble_eq_true rfl) [c65_o7, size_mk, get_mk_lt, get_mk_ge, frameOf, Eff.app, Heap.setOwn, g0, g1, g2, g3, g4, g5, g6]
  have te : Tr tbl J (c65_o13) (fun s h' => s.get [true] = .ptr h.size 0 64 ∧ s.get [false, false] = .ptr (h.size + 1) 0 64 ∧ s.get [true, false] = .ptr (h.size + 2) 0 64 ∧ s.get [false, true] = .ptr (h.size + 3) 0 64 ∧ s.get [true, true] = G i ∧ s.get [false, true, false] = G i ∧ s.get [true, false, true] = G j ∧ h' = HT h r q (outF r q i (j + 1) 0)) .normal (fun s h' => s.get [true] = .ptr h.size 0 64 ∧ s.get [false, false] = .ptr (h.size + 1) 0 64 ∧ s.get [true, false] = .ptr (h.size + 2) 0 64 ∧ s.get [false, true] = .ptr (h.size + 3) 0 64 ∧ s.get [true, true] = G i ∧ s.get [false, true, false] = G i ∧ s.get [true, false, true] = G ((j + 1 : Nat) : Int) ∧ h' = HT h r q (outF r q i (j + 1) 0)) := Tr.region fun s h hp => by
    obtain ⟨g0, g1, g2, g3, g4, g5, g6, rfl⟩ := hp
    simp (disch := first | omega | exact getEq rfl | exact getO0 | exact Nat.le_of_ble_eq_true rfl) [c65_o13, size_mk, get_mk_lt, get_mk_ge, frameOf, Eff.app, Heap.setOwn, g0, g1, g2, g3, g4, g5, g6]
  exact Tr.trim_assoc (Tr.trim_seq ta (Tr.seq (Tr.block_out (Tr.seq tb tk) (by simp)) te))
theorem tm_i (J : CallF) (h : Heap) :
    Tr tbl J (.seq c65_o2 (.block 0 c65_l2)) (fun s h' => s.get [true] = .ptr h.size 0 64 ∧ s.get [false, false] = .ptr (h.size + 1) 0 64 ∧ s.get [true, false] = .ptr (h.size + 2) 0 64 ∧ s.get [false, true] = .ptr (h.size + 3) 0 64 ∧ h' = HT h r q (outF r q 0 0 0)) .normal (fun s h' => s.get [true, false] = .ptr (h.size + 2) 0 64 ∧ s.get [false, true] = .ptr (h.size + 3) 0 64 ∧ h' = HT h r q (outF r q 8 0 0)) := by
  have t0 : Tr tbl J (c65_o2) (fun s h' => s.get [true] = .ptr h.size 0 64 ∧ s.get [false, false] = .ptr (h.size + 1) 0 64 ∧ s.get [true, false] = .ptr (h.size + 2) 0 64 ∧ s.get [false, true] = .ptr (h.size + 3) 0 64 ∧ h' = HT h r q (outF r q 0 0 0)) .normal (fun s h' => s.get [true] = .ptr h.size 0 64 ∧ s.get [false, false] = .ptr (h.size + 1) 0 64 ∧ s.get [true, false] = .ptr (h.size + 2) 0 64 ∧ s.get [false, true] = .ptr (h.size + 3) 0 64 ∧ s.get [false, true, false] = G ((0 : Nat) : Int) ∧ h' = HT h r q (outF r q 0 0 0)) := Tr.region fun s h hp => by
    obtain ⟨g0, g1, g2, g3, rfl⟩ := hp
    simp (disch := first | omega | exact getEq rfl | exact getO0 | exact Nat.le_of_ble_eq_true rfl) [c65_o2, size_mk, get_mk_lt, get_mk_ge, frameOf, Eff.app, Heap.setOwn, g0, g1, g2, g3]
  have t1 : Tr tbl J ((.trim L65c c65_b2)) (fun s h' => s.get [true] = .ptr h.size 0 64 ∧ s.get [false, false] = .ptr (h.size + 1) 0 64 ∧ s.get [true, false] = .ptr (h.size + 2) 0 64 ∧ s.get [false, true] = .ptr (h.size + 3) 0 64 ∧ s.get [false, true, false] = G ((8 : Nat) : Int) ∧ h' = HT h r q (outF r q 8 0 0)) (.exit 0) (fun s h' => s.get [true, false] = .ptr (h.size + 2) 0 64 ∧ s.get [false, true] = .ptr (h.size + 3) 0 64 ∧ h' = HT h r q (outF r q 8 0 0)) := Tr.region fun s h hp => by
    obtain ⟨g0, g1, g2, g3, g4, rfl⟩ := hp
    simp (disch := first | omega | exact getEq rfl | exact getO0 | exact Nat.le_of_ble_eq_true rfl) [c65_b2, c65_o3, size_mk, get_mk_lt, get_mk_ge, frameOf, Eff.app, Heap.setOwn, g0, g1, g2, g3, g4]
  refine Tr.seq t0 (Tr.block (Tr.rounds (P := fun i => (fun s h' => s.get [true] = .ptr h.size 0 64 ∧ s.get [false, false] = .ptr (h.size + 1) 0 64 ∧ s.get [true, false] = .ptr (h.size + 2) 0 64 ∧ s.get [false, true] = .ptr (h.size + 3) 0 64 ∧ s.get [false, true, false] = G i ∧ h' = HT h r q (outF r q i 0 0))) (M := 8) (fun i hi => ?_) t1 (by simp) 0 (by omega)))
  have tj := tm_j (r := r) (q := q) J h hi
  rw [outF_ni r q i] at tj
  have ta : Tr tbl J ((.trim L65c (.seq c65_o3 (.cond (.s [true, true, false]) .skip (.exit 0))))) (fun s h' => s.get [true] = .ptr h.size 0 64 ∧ s.get [false, false] = .ptr (h.size + 1) 0 64 ∧ s.get [true, false] = .ptr (h.size + 2) 0 64 ∧ s.get [false, true] = .ptr (h.size + 3) 0 64 ∧ s.get [false, true, false] = G i ∧ h' = HT h r q (outF r q i 0 0)) .normal (fun s h' => s.get [true] = .ptr h.size 0 64 ∧ s.get [false, false] = .ptr (h.size + 1) 0 64 ∧ s.get [true, false] = .ptr (h.size + 2) 0 64 ∧ s.get [false, true] = .ptr (h.size + 3) 0 64 ∧ s.get [false, true, false] = G i ∧ h' = HT h r q (outF r q i 0 0)) := Tr.region fun s h hp => by
    obtain ⟨g0, g1, g2, g3, g4, rfl⟩ := hp
    simp (disch := first | omega | exact getEq rfl | exact getO0 | exact Nat.le_of_ble_eq_true rfl) [c65_o3, size_mk, get_mk_lt, get_mk_ge, frameOf, Eff.app, Heap.setOwn, g0, g1, g2, g3, g4]
  have tb : Tr tbl J (c65_o4) (fun s h' => s.get [true] = .ptr h.size 0 64 ∧ s.get [false, false] = .ptr (h.size + 1) 0 64 ∧ s.get [true, false] = .ptr (h.size + 2) 0 64 ∧ s.get [false, true] = .ptr (h.size + 3) 0 64 ∧ s.get [false, true, false] = G i ∧ h' = HT h r q (outF r q i 0 0)) .normal (fun s h' => s.get [true] = .ptr h.size 0 64 ∧ s.get [false, false] = .ptr (h.size + 1) 0 64 ∧ s.get [true, false] = .ptr (h.size + 2) 0 64 ∧ s.get [false, true] = .ptr (h.size + 3) 0 64 ∧ s.get [true, true] = G i ∧ s.get [false, true, false] = G i ∧ h' = HT h r q (outF r q i 0 0)) := Tr.region fun s h hp => by
    obtain ⟨g0, g1, g2, g3, g4, rfl⟩ := hp
    simp (disch := first | omega | exact getEq rfl | exact getO0 | exact Nat.le_of_ble_eq_true rfl) [c65_o4, size_mk, get_mk_lt, get_mk_ge, frameOf, Eff.app, Heap.setOwn, g0, g1, g2, g3, g4]
  have te : Tr tbl J (c65_o14) (fun s h' => s.get [true] = .ptr h.size 0 64 ∧ s.get [false, false] = .ptr (h.size + 1) 0 64 ∧ s.get [true, false] = .ptr (h.size + 2) 0 64 ∧ s.get [false, true] = .ptr (h.size + 3) 0 64 ∧ s.get [false, true, false] = G i ∧ h' = HT h r q (outF r q (i + 1) 0 0)) .normal (fun s h' => s.get [true] = .ptr h.size 0 64 ∧ s.get [false, false] = .ptr (h.size + 1) 0 64 ∧ s.get [true, false] = .ptr (h.size + 2) 0 64 ∧ s.get [false, true] = .ptr (h.size + 3) 0 64 ∧ s.get [false, true, false] = G ((i + 1 : Nat) : Int) ∧ h' = HT h r q (outF r q (i + 1) 0 0)) := Tr.region fun s h hp => by
    obtain ⟨g0, g1, g2, g3, g4, rfl⟩ := hp
    simp (disch := first | omega | exact getEq rfl | exact getO0 | exact Nat.le_of_ble_eq_true rfl) [c65_o14, size_mk, get_mk_lt, get_mk_ge, frameOf, Eff.app, Heap.setOwn, g0, g1, g2, g3, g4]
  exact Tr.trim_assoc (Tr.trim_seq ta (Tr.seq (Tr.block_out (Tr.seq tb tj) (by simp)) te))
end

theorem c65_ok (J : CallF) (hJ : ∀ a h, J 65 a h = none) (h : Heap) (r q : Nat → Bool) : CallsTo tbl J 65 [.agg (bls r 64), .agg (bls q 64)] h (.agg (bls (tmf r q) 64), [], false) := by
  have fl : ∀ f : Nat → Bool, AV.flat (.agg (bls f 64)) = true := fun f => by
    show AV.flats (bls f 64) = true
    unfold bls
    induction List.range 64 with
    | nil => rfl
    | cons x xs ih => simp only [List.map_cons, AV.flats, AV.flat, ih, Bool.true_and]
  refine Tr.fnv (cf := c65) (e := .ret) (s := T.set (T.set .leaf [] (.agg (bls r 64))) [false] (.agg (bls q 64))) (by decide) rfl (hJ _ _) rfl rfl (fl _) (by simp) ?_
  have e0 : outF r q 0 0 0 = fun _ => false := by
    funext x
    unfold outF
    rw [if_neg (by omega)]
    split <;> rfl
  have e8 : bls (outF r q 8 0 0) 64 = bls (tmf r q) 64 := bls_ext _ _ _ fun x hx => by unfold outF; rw [if_pos (by omega)]
  have ti := tm_i (r := r) (q := q) J h
  rw [e0] at ti
  unfold HT at ti
  rw [e8] at ti
  have l1 : (bls r 64).length = 64 := bls_len _ _
  have l2 : (bls q 64).length = 64 := bls_len _ _
  have l3 : (bls (tmf r q) 64).length = 64 := bls_len _ _
  have l4 : (bls (fun _ => false) 64).length = 64 := bls_len _ _
  have rp := bls_rep 64
  generalize bls (tmf r q) 64 = ct at *
  generalize bls r 64 = cr at *
  generalize bls q 64 = cs at *
  generalize bls (fun _ => false) 64 = cz at *
  have t0 : Tr tbl J ((.seq c65_o0 c65_o1)) (fun s h' => s = T.set (T.set .leaf [] (.agg cr)) [false] (.agg cs) ∧ h' = frameOf h) .normal (fun s h' => s.get [true] = .ptr h.size 0 64 ∧ s.get [false, false] = .ptr (h.size + 1) 0 64 ∧ s.get [true, false] = .ptr (h.size + 2) 0 64 ∧ s.get [false, true] = .ptr (h.size + 3) 0 64 ∧ h' = ⟨h.get, h.size, [.cells 0 64 cr, .cells 0 64 cs, .cells 0 64 cz, .cells 0 64 cz]⟩) := Tr.region fun s h hp => by
    obtain ⟨rfl, rfl⟩ := hp
    simp (disch := first | omega | exact getEq rfl | exact getO0 | exact Nat.le_of_ble_eq_true rfl) [c65_o0, c65_o1, frameOf, size_mk, get_mk_lt, get_mk_ge, frameOf, Eff.app, Heap.setOwn, l1, l2, l4, rp]
  have t3 : Tr tbl J ((.seq c65_o15 .ret)) (fun s h' => s.get [true, false] = .ptr (h.size + 2) 0 64 ∧ s.get [false, true] = .ptr (h.size + 3) 0 64 ∧ h' = ⟨h.get, h.size, [.cells 0 64 cr, .cells 0 64 cs, .cells 0 64 cz, .cells 0 64 ct]⟩) .ret (fun s h' => s.get [true, false] = .ptr (h.size + 2) 0 64 ∧ h' = ⟨h.get, h.size, [.cells 0 64 cr, .cells 0 64 cs, .cells 0 64 ct, .cells 0 64 ct]⟩) := Tr.region fun s h hp => by
    obtain ⟨g0, g1, rfl⟩ := hp
    have et : ct.take 64 = ct := List.take_of_length_le (by omega)
    have ep : putAt cz 0 ct = ct := putAt_all _ _ (by omega)
    simp (disch := first | omega | exact getEq rfl | exact getO0 | exact Nat.le_of_ble_eq_true rfl) [c65_o15, size_mk, get_mk_lt, get_mk_ge, frameOf, Eff.app, Heap.setOwn, g0, g1, et, ep, l3, l4]
  refine Tr.post (fun s' h' q => ?_) (Tr.app2 t0 (Tr.seq ti t3))
  obtain ⟨q1, rfl⟩ := q
  have et : ct.take 64 = ct := List.take_of_length_le (by omega)
  simp [c65, evRess, evRes, q1, loadA, get_mk_ge, takeA, et, l3, one]

end Go.Proofs.Ytjeemgaoonapgaa.Ev
