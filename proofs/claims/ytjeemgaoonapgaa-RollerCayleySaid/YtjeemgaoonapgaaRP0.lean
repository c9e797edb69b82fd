/-
  Of the functions that this law reaches, part 0: what they answer. No condition.
-/
import Derived.Test.YtjeemgaoonapgaaSCheck
import Derived.Test.YtjeemgaoonapgaaEvW
set_option linter.unusedVariables false
set_option linter.unusedSimpArgs false
namespace Go.Proofs.Ytjeemgaoonapgaa.Ev
open Go Go.AEv
abbrev zE := @getEq
abbrev zO := @getO0
abbrev zL := @Nat.le_of_ble_eq_true
abbrev zG := (And.intro @app_growP (And.intro @app_noneP (And.intro @plus_N (And.intro @plus_at0 (And.intro @put_plus0 (And.intro @put_plus1 (And.intro @upd_N @upd_size)))))))
abbrev zW := (And.intro @thenW_n (And.intro @thenW_e (And.intro @thenW_r (And.intro @blkW_n (And.intro @blkW_e @blkW_r)))))
attribute [local simp] evFunc initS evOps_c evTrim_c evSkip_c evExit_c evRet_c evSeq_c evCond_c evBlock_c evDraw_c runOps_n runOps_c exec_n exec_g pure1_c act AOpd.ev T.get T.set T.put evBin evUn forceT_eq forceV_eq forceL_eq evRess evRes one keep runFP_n runFP_c app_none AV.flats AV.flat came_some List.getElem?_cons_zero List.getElem?_cons_succ beqT wrapI idxI tdivI tmodI decT decF ibT ibF inT inF evScope_c if_pos if_neg Cm_some thenW_n thenW_e thenW_r blkW_n blkW_e blkW_r goI kn putAt AV.cells fillA loadA takeA mk Eff.isAll Eff.isNone Eff.commutes Eff.spares okPair apart eqAgg fits LK.fits allEq aveq eqk mmA
abbrev G (n : Int) : AV := .int .i64 n
def bls (f : Nat → Bool) (n : Nat) : List AV := (List.range n).map fun x => .bool (f x)
theorem bls_len (f : Nat → Bool) (n : Nat) : (bls f n).length = n := by simp [bls]
theorem bls_at (f : Nat → Bool) {n i : Nat} (h : i < n) : (bls f n)[i]? = some (.bool (f i)) := by simp [bls, h]
theorem bls_set (f : Nat → Bool) (n i : Nat) (b : Bool) (h : i < n) : (bls f n).set i (.bool b) = bls (fun x => if x = i then b else f x) n := by
  apply List.ext_getElem?
  intro x
  by_cases hx : x < n
  · rw [bls_at _ hx]
    by_cases e : x = i
    · subst e; rw [List.getElem?_set_self (by rw [bls_len]; exact h), if_pos rfl]
    · rw [List.getElem?_set_ne (fun e' => e e'.symm), bls_at _ hx, if_neg e]
  · rw [List.getElem?_eq_none (by simp [bls_len]; omega), List.getElem?_eq_none (by simp [bls_len]; omega)]
theorem bls_ext (f g : Nat → Bool) (n : Nat) (h : ∀ x, x < n → f x = g x) : bls f n = bls g n := by
  unfold bls; apply List.map_congr_left; intro x hx; rw [h x (by simpa using hx)]
theorem bls_rep (n : Nat) : List.replicate n (AV.bool false) = bls (fun _ => false) n := by
  apply List.ext_getElem?
  intro x
  by_cases hx : x < n
  · rw [bls_at _ hx, List.getElem?_replicate, if_pos hx]
  · rw [List.getElem?_eq_none (by simp; omega), List.getElem?_eq_none (by simp [bls_len]; omega)]
theorem putAt_all : ∀ (c z : List AV), c.length = z.length → putAt z 0 c = c := fun c z h => by
  apply List.ext_getElem?
  intro i
  rw [putAt_get _ _ _ _ (by omega)]
  by_cases hi : i < c.length
  · rw [if_pos ⟨by omega, by omega⟩]; rfl
  · rw [if_neg (by omega), List.getElem?_eq_none (by omega), List.getElem?_eq_none (by omega)]
def pr (r q : Nat → Bool) (i j : Nat) : Nat → Bool
  | 0 => false
  | k + 1 => pr r q i j k || (r (i * 8 + k) && q (k * 8 + j))
def tmf (r q : Nat → Bool) (x : Nat) : Bool := pr r q (x / 8) (x % 8) 8
def outF (r q : Nat → Bool) (i j k x : Nat) : Bool := if x < i * 8 + j then tmf r q x else if x = i * 8 + j then pr r q i j k else false
theorem outF_nj (r q : Nat → Bool) (i j : Nat) (hj : j < 8) : outF r q i j 8 = outF r q i (j + 1) 0 := by
  funext x
  unfold outF
  by_cases h1 : x < i * 8 + j
  · rw [if_pos h1, if_pos (by omega)]
  · rw [if_neg h1]
    by_cases h2 : x = i * 8 + j
    · rw [if_pos h2, if_pos (by omega)]
      unfold tmf
      rw [show x / 8 = i by omega, show x % 8 = j by omega]
    · rw [if_neg h2, if_neg (by omega)]
      by_cases h3 : x = i * 8 + (j + 1)
      · rw [if_pos h3]; rfl
      · rw [if_neg h3]
theorem outF_ni (r q : Nat → Bool) (i : Nat) : outF r q i 8 0 = outF r q (i + 1) 0 0 := by
  funext x
  unfold outF
  rw [show (i + 1) * 8 + 0 = i * 8 + 8 by omega]; rfl
section
variable {r q : Nat → Bool}
def HT (h : Heap) (r q o : Nat → Bool) : Heap := ⟨h.get, h.size, [.cells 0 64 (bls r 64), .cells 0 64 (bls q 64), .cells 0 64 (bls (fun _ => false) 64), .cells 0 64 (bls o 64)]⟩
abbrev L65a : List Path := [[true], [false, false], [true, false], [false, true], [true, true], [false, false, false], [false, true, false], [true, false, true], [false, false, false, false]]
abbrev L65b : List Path := [[true], [false, false], [true, false], [false, true], [true, true], [false, true, false], [true, false, true]]
abbrev L65c : List Path := [[true], [false, false], [true, false], [false, true], [false, true, false]]
theorem tm_11 (J : CallF) (h : Heap) {i j k : Nat} (hi : i < 8) (hj : j < 8) (hk : k < 8) {cr cs cz co : List AV} {b0 b1 b2 : Bool} (e0 : co[i * 8 + j]? = some (.bool b0)) (e1 : cr[i * 8 + k]? = some (.bool b1)) (e2 : cs[k * 8 + j]? = some (.bool b2)) (lo : co.length = 64) :
    Tr tbl J c65_o11 (fun s h' => s.get [true] = .ptr h.size 0 64 ∧ s.get [false, false] = .ptr (h.size + 1) 0 64 ∧ s.get [true, false] = .ptr (h.size + 2) 0 64 ∧ s.get [false, true] = .ptr (h.size + 3) 0 64 ∧ s.get [true, true] = G i ∧ s.get [false, false, false] = G j ∧ s.get [true, false, false] = G k ∧ s.get [false, true, false] = G i ∧ s.get [true, false, true] = G j ∧ s.get [false, false, false, false] = G k ∧ h' = ⟨h.get, h.size, [.cells 0 64 cr, .cells 0 64 cs, .cells 0 64 cz, .cells 0 64 co]⟩) .normal
      (fun s h' => s.get [true] = .ptr h.size 0 64 ∧ s.get [false, false] = .ptr (h.size + 1) 0 64 ∧ s.get [true, false] = .ptr (h.size + 2) 0 64 ∧ s.get [false, true] = .ptr (h.size + 3) 0 64 ∧ s.get [true, true] = G i ∧ s.get [false, false, false] = G j ∧ s.get [false, true, false] = G i ∧ s.get [true, false, true] = G j ∧ s.get [false, false, false, false] = G k ∧ h' = ⟨h.get, h.size, [.cells 0 64 cr, .cells 0 64 cs, .cells 0 64 cz, .cells 0 64 (co.set (i * 8 + j) (.bool (b0 || (b1 && b2))))]⟩) := by
  have e0' : ∀ h : i * 8 + j < co.length, co[i * 8 + j] = .bool b0 := fun h => by rw [List.getElem?_eq_getElem h] at e0; exact Option.some.inj e0
  have e1' : ∀ h : i * 8 + k < cr.length, cr[i * 8 + k] = .bool b1 := fun h => by rw [List.getElem?_eq_getElem h] at e1; exact Option.some.inj e1
  have e2' : ∀ h : k * 8 + j < cs.length, cs[k * 8 + j] = .bool b2 := fun h => by rw [List.getElem?_eq_getElem h] at e2; exact Option.some.inj e2
  have hl : i * 8 + j < co.length := by omega
  have t : Tr tbl J (c65_o11) (fun s h' => s.get [true] = .ptr h.size 0 64 ∧ s.get [false, false] = .ptr (h.size + 1) 0 64 ∧ s.get [true, false] = .ptr (h.size + 2) 0 64 ∧ s.get [false, true] = .ptr (h.size + 3) 0 64 ∧ s.get [true, true] = G i ∧ s.get [false, false, false] = G j ∧ s.get [true, false, false] = G k ∧ s.get [false, true, false] = G i ∧ s.get [true, false, true] = G j ∧ s.get [false, false, false, false] = G k ∧ h' = ⟨h.get, h.size, [.cells 0 64 cr, .cells 0 64 cs, .cells 0 64 cz, .cells 0 64 co]⟩) .normal (fun s h' => s.get [true] = .ptr h.size 0 64 ∧ s.get [false, false] = .ptr (h.size + 1) 0 64 ∧ s.get [true, false] = .ptr (h.size + 2) 0 64 ∧ s.get [false, true] = .ptr (h.size + 3) 0 64 ∧ s.get [true, true] = G i ∧ s.get [false, false, false] = G j ∧ s.get [false, true, false] = G i ∧ s.get [true, false, true] = G j ∧ s.get [false, false, false, false] = G k ∧ h' = ⟨h.get, h.size, [.cells 0 64 cr, .cells 0 64 cs, .cells 0 64 cz, .cells 0 64 (co.set (i * 8 + j) (.bool (b0 || (b1 && b2))))]⟩) := Tr.region fun s h hp => by
    obtain ⟨g0, g1, g2, g3, g4, g5, g6, g7, g8, g9, rfl⟩ := hp
    cases b0 <;> cases b1 <;> cases b2 <;> simp (disch := first|omega|exact zE rfl|exact zO|exact zL rfl) [c65_o11, size_mk, get_mk_lt, get_mk_ge, frameOf, Eff.app, Heap.setOwn, g0, g1, g2, g3, g4, g5, g6, g7, g8, g9, e0, e1, e2, e0', e1', e2']
  exact t
theorem tm_step (J : CallF) (h : Heap) {i j k : Nat} (hi : i < 8) (hj : j < 8) (hk : k < 8) :
    Tr tbl J (.trim L65a c65_b0) (fun s h' => s.get [true] = .ptr h.size 0 64 ∧ s.get [false, false] = .ptr (h.size + 1) 0 64 ∧ s.get [true, false] = .ptr (h.size + 2) 0 64 ∧ s.get [false, true] = .ptr (h.size + 3) 0 64 ∧ s.get [true, true] = G i ∧ s.get [false, false, false] = G j ∧ s.get [false, true, false] = G i ∧ s.get [true, false, true] = G j ∧ s.get [false, false, false, false] = G k ∧ h' = HT h r q (outF r q i j k)) .normal
      (fun s h' => s.get [true] = .ptr h.size 0 64 ∧ s.get [false, false] = .ptr (h.size + 1) 0 64 ∧ s.get [true, false] = .ptr (h.size + 2) 0 64 ∧ s.get [false, true] = .ptr (h.size + 3) 0 64 ∧ s.get [true, true] = G i ∧ s.get [false, false, false] = G j ∧ s.get [false, true, false] = G i ∧ s.get [true, false, true] = G j ∧ s.get [false, false, false, false] = G ((k + 1 : Nat) : Int) ∧ h' = HT h r q (outF r q i j (k + 1))) := by
  have t11 := tm_11 J h hi hj hk (cz := bls (fun _ => false) 64) (bls_at (outF r q i j k) (show i * 8 + j < 64 by omega)) (bls_at r (show i * 8 + k < 64 by omega)) (bls_at q (show k * 8 + j < 64 by omega)) (bls_len _ _)
  have eo : outF r q i j k (i * 8 + j) = pr r q i j k := by unfold outF; rw [if_neg (by omega), if_pos rfl]
  rw [eo] at t11
  have es : (bls (outF r q i j k) 64).set (i * 8 + j) (.bool (pr r q i j k || (r (i * 8 + k) && q (k * 8 + j)))) = bls (outF r q i j (k + 1)) 64 := by
    rw [bls_set _ _ _ _ (by omega)]
    apply bls_ext
    intro x hx
    unfold outF
    by_cases e : x = i * 8 + j
    · rw [if_pos e, if_neg (by omega), if_pos e]; rfl
    · rw [if_neg e]
      by_cases e2 : x < i * 8 + j
      · rw [if_pos e2, if_pos e2]
      · rw [if_neg e2, if_neg e, if_neg e2, if_neg e]
  rw [es] at t11
  unfold HT
  generalize bls (outF r q i j (k + 1)) 64 = o1 at *
  generalize bls (outF r q i j k) 64 = o0 at *
  generalize bls r 64 = cr at *
  generalize bls q 64 = cs at *
  generalize bls (fun _ => false) 64 = cz at *
  have ta : Tr tbl J ((.trim L65a (.seq c65_o9 (.cond (.s [true, false, false, false]) .skip (.exit 4))))) (fun s h' => s.get [true] = .ptr h.size 0 64 ∧ s.get [false, false] = .ptr (h.size + 1) 0 64 ∧ s.get [true, false] = .ptr (h.size + 2) 0 64 ∧ s.get [false, true] = .ptr (h.size + 3) 0 64 ∧ s.get [true, true] = G i ∧ s.get [false, false, false] = G j ∧ s.get [false, true, false] = G i ∧ s.get [true, false, true] = G j ∧ s.get [false, false, false, false] = G k ∧ h' = ⟨h.get, h.size, [.cells 0 64 cr, .cells 0 64 cs, .cells 0 64 cz, .cells 0 64 o0]⟩) .normal (fun s h' => s.get [true] = .ptr h.size 0 64 ∧ s.get [false, false] = .ptr (h.size + 1) 0 64 ∧ s.get [true, false] = .ptr (h.size + 2) 0 64 ∧ s.get [false, true] = .ptr (h.size + 3) 0 64 ∧ s.get [true, true] = G i ∧ s.get [false, false, false] = G j ∧ s.get [false, true, false] = G i ∧ s.get [true, false, true] = G j ∧ s.get [false, false, false, false] = G k ∧ h' = ⟨h.get, h.size, [.cells 0 64 cr, .cells 0 64 cs, .cells 0 64 cz, .cells 0 64 o0]⟩) := Tr.region fun s h hp => by
    obtain ⟨g0, g1, g2, g3, g4, g5, g6, g7, g8, rfl⟩ := hp
    simp (disch := first|omega|exact zE rfl|exact zO|exact zL rfl) [c65_o9, size_mk, get_mk_lt, get_mk_ge, frameOf, Eff.app, Heap.setOwn, g0, g1, g2, g3, g4, g5, g6, g7, g8]
  have tb : Tr tbl J (c65_o10) (fun s h' => s.get [true] = .ptr h.size 0 64 ∧ s.get [false, false] = .ptr (h.size + 1) 0 64 ∧ s.get [true, false] = .ptr (h.size + 2) 0 64 ∧ s.get [false, true] = .ptr (h.size + 3) 0 64 ∧ s.get [true, true] = G i ∧ s.get [false, false, false] = G j ∧ s.get [false, true, false] = G i ∧ s.get [true, false, true] = G j ∧ s.get [false, false, false, false] = G k ∧ h' = ⟨h.get, h.size, [.cells 0 64 cr, .cells 0 64 cs, .cells 0 64 cz, .cells 0 64 o0]⟩) .normal (fun s h' => s.get [true] = .ptr h.size 0 64 ∧ s.get [false, false] = .ptr (h.size + 1) 0 64 ∧ s.get [true, false] = .ptr (h.size + 2) 0 64 ∧ s.get [false, true] = .ptr (h.size + 3) 0 64 ∧ s.get [true, true] = G i ∧ s.get [false, false, false] = G j ∧ s.get [true, false, false] = G k ∧ s.get [false, true, false] = G i ∧ s.get [true, false, true] = G j ∧ s.get [false, false, false, false] = G k ∧ h' = ⟨h.get, h.size, [.cells 0 64 cr, .cells 0 64 cs, .cells 0 64 cz, .cells 0 64 o0]⟩) := Tr.region fun s h hp => by
    obtain ⟨g0, g1, g2, g3, g4, g5, g6, g7, g8, rfl⟩ := hp
    simp (disch := first|omega|exact zE rfl|exact zO|exact zL rfl) [c65_o10, size_mk, get_mk_lt, get_mk_ge, frameOf, Eff.app, Heap.setOwn, g0, g1, g2, g3, g4, g5, g6, g7, g8]
  have te : Tr tbl J (c65_o12) (fun s h' => s.get [true] = .ptr h.size 0 64 ∧ s.get [false, false] = .ptr (h.size + 1) 0 64 ∧ s.get [true, false] = .ptr (h.size + 2) 0 64 ∧ s.get [false, true] = .ptr (h.size + 3) 0 64 ∧ s.get [true, true] = G i ∧ s.get [false, false, false] = G j ∧ s.get [false, true, false] = G i ∧ s.get [true, false, true] = G j ∧ s.get [false, false, false, false] = G k ∧ h' = ⟨h.get, h.size, [.cells 0 64 cr, .cells 0 64 cs, .cells 0 64 cz, .cells 0 64 o1]⟩) .normal (fun s h' => s.get [true] = .ptr h.size 0 64 ∧ s.get [false, false] = .ptr (h.size + 1) 0 64 ∧ s.get [true, false] = .ptr (h.size + 2) 0 64 ∧ s.get [false, true] = .ptr (h.size + 3) 0 64 ∧ s.get [true, true] = G i ∧ s.get [false, false, false] = G j ∧ s.get [false, true, false] = G i ∧ s.get [true, false, true] = G j ∧ s.get [false, false, false, false] = G ((k + 1 : Nat) : Int) ∧ h' = ⟨h.get, h.size, [.cells 0 64 cr, .cells 0 64 cs, .cells 0 64 cz, .cells 0 64 o1]⟩) := Tr.region fun s h hp => by
    obtain ⟨g0, g1, g2, g3, g4, g5, g6, g7, g8, rfl⟩ := hp
    simp (disch := first|omega|exact zE rfl|exact zO|exact zL rfl) [c65_o12, size_mk, get_mk_lt, get_mk_ge, frameOf, Eff.app, Heap.setOwn, g0, g1, g2, g3, g4, g5, g6, g7, g8]
  exact Tr.trim_assoc (Tr.trim_seq ta (Tr.seq (Tr.block_out (Tr.seq tb t11) (by simp)) te))
theorem tm_k (J : CallF) (h : Heap) {i j : Nat} (hi : i < 8) (hj : j < 8) :
    Tr tbl J (.seq c65_o8 (.block 4 c65_l0)) (fun s h' => s.get [true] = .ptr h.size 0 64 ∧ s.get [false, false] = .ptr (h.size + 1) 0 64 ∧ s.get [true, false] = .ptr (h.size + 2) 0 64 ∧ s.get [false, true] = .ptr (h.size + 3) 0 64 ∧ s.get [true, true] = G i ∧ s.get [false, false, false] = G j ∧ s.get [false, true, false] = G i ∧ s.get [true, false, true] = G j ∧ h' = HT h r q (outF r q i j 0)) .normal (fun s h' => s.get [true] = .ptr h.size 0 64 ∧ s.get [false, false] = .ptr (h.size + 1) 0 64 ∧ s.get [true, false] = .ptr (h.size + 2) 0 64 ∧ s.get [false, true] = .ptr (h.size + 3) 0 64 ∧ s.get [true, true] = G i ∧ s.get [false, true, false] = G i ∧ s.get [true, false, true] = G j ∧ h' = HT h r q (outF r q i j 8)) := by
  have t0 : Tr tbl J (c65_o8) (fun s h' => s.get [true] = .ptr h.size 0 64 ∧ s.get [false, false] = .ptr (h.size + 1) 0 64 ∧ s.get [true, false] = .ptr (h.size + 2) 0 64 ∧ s.get [false, true] = .ptr (h.size + 3) 0 64 ∧ s.get [true, true] = G i ∧ s.get [false, false, false] = G j ∧ s.get [false, true, false] = G i ∧ s.get [true, false, true] = G j ∧ h' = HT h r q (outF r q i j 0)) .normal (fun s h' => s.get [true] = .ptr h.size 0 64 ∧ s.get [false, false] = .ptr (h.size + 1) 0 64 ∧ s.get [true, false] = .ptr (h.size + 2) 0 64 ∧ s.get [false, true] = .ptr (h.size + 3) 0 64 ∧ s.get [true, true] = G i ∧ s.get [false, false, false] = G j ∧ s.get [false, true, false] = G i ∧ s.get [true, false, true] = G j ∧ s.get [false, false, false, false] = G ((0 : Nat) : Int) ∧ h' = HT h r q (outF r q i j 0)) := Tr.region fun s h hp => by
    obtain ⟨g0, g1, g2, g3, g4, g5, g6, g7, rfl⟩ := hp
    simp (disch := first|omega|exact zE rfl|exact zO|exact zL rfl) [c65_o8, size_mk, get_mk_lt, get_mk_ge, frameOf, Eff.app, Heap.setOwn, g0, g1, g2, g3, g4, g5, g6, g7]
  have t1 : Tr tbl J ((.trim L65a c65_b0)) (fun s h' => s.get [true] = .ptr h.size 0 64 ∧ s.get [false, false] = .ptr (h.size + 1) 0 64 ∧ s.get [true, false] = .ptr (h.size + 2) 0 64 ∧ s.get [false, true] = .ptr (h.size + 3) 0 64 ∧ s.get [true, true] = G i ∧ s.get [false, false, false] = G j ∧ s.get [false, true, false] = G i ∧ s.get [true, false, true] = G j ∧ s.get [false, false, false, false] = G ((8 : Nat) : Int) ∧ h' = HT h r q (outF r q i j 8)) (.exit 4) (fun s h' => s.get [true] = .ptr h.size 0 64 ∧ s.get [false, false] = .ptr (h.size + 1) 0 64 ∧ s.get [true, false] = .ptr (h.size + 2) 0 64 ∧ s.get [false, true] = .ptr (h.size + 3) 0 64 ∧ s.get [true, true] = G i ∧ s.get [false, true, false] = G i ∧ s.get [true, false, true] = G j ∧ h' = HT h r q (outF r q i j 8)) := Tr.region fun s h hp => by
    obtain ⟨g0, g1, g2, g3, g4, g5, g6, g7, g8, rfl⟩ := hp
    simp (disch := first|omega|exact zE rfl|exact zO|exact zL rfl) [c65_b0, c65_o9, size_mk, get_mk_lt, get_mk_ge, frameOf, Eff.app, Heap.setOwn, g0, g1, g2, g3, g4, g5, g6, g7, g8]
  exact Tr.seq t0 (Tr.block (Tr.rounds (P := fun k => (fun s h' => s.get [true] = .ptr h.size 0 64 ∧ s.get [false, false] = .ptr (h.size + 1) 0 64 ∧ s.get [true, false] = .ptr (h.size + 2) 0 64 ∧ s.get [false, true] = .ptr (h.size + 3) 0 64 ∧ s.get [true, true] = G i ∧ s.get [false, false, false] = G j ∧ s.get [false, true, false] = G i ∧ s.get [true, false, true] = G j ∧ s.get [false, false, false, false] = G k ∧ h' = HT h r q (outF r q i j k))) (M := 8) (fun k hk => tm_step J h hi hj hk) t1 (by simp) 0 (by omega)))
theorem tm_j (J : CallF) (h : Heap) {i : Nat} (hi : i < 8) :
    Tr tbl J (.seq c65_o5 (.block 2 c65_l1)) (fun s h' => s.get [true] = .ptr h.size 0 64 ∧ s.get [false, false] = .ptr (h.size + 1) 0 64 ∧ s.get [true, false] = .ptr (h.size + 2) 0 64 ∧ s.get [false, true] = .ptr (h.size + 3) 0 64 ∧ s.get [true, true] = G i ∧ s.get [false, true, false] = G i ∧ h' = HT h r q (outF r q i 0 0)) .normal (fun s h' => s.get [true] = .ptr h.size 0 64 ∧ s.get [false, false] = .ptr (h.size + 1) 0 64 ∧ s.get [true, false] = .ptr (h.size + 2) 0 64 ∧ s.get [false, true] = .ptr (h.size + 3) 0 64 ∧ s.get [false, true, false] = G i ∧ h' = HT h r q (outF r q i 8 0)) := by
  have t0 : Tr tbl J (c65_o5) (fun s h' => s.get [true] = .ptr h.size 0 64 ∧ s.get [false, false] = .ptr (h.size + 1) 0 64 ∧ s.get [true, false] = .ptr (h.size + 2) 0 64 ∧ s.get [false, true] = .ptr (h.size + 3) 0 64 ∧ s.get [true, true] = G i ∧ s.get [false, true, false] = G i ∧ h' = HT h r q (outF r q i 0 0)) .normal (fun s h' => s.get [true] = .ptr h.size 0 64 ∧ s.get [false, false] = .ptr (h.size + 1) 0 64 ∧ s.get [true, false] = .ptr (h.size + 2) 0 64 ∧ s.get [false, true] = .ptr (h.size + 3) 0 64 ∧ s.get [true, true] = G i ∧ s.get [false, true, false] = G i ∧ s.get [true, false, true] = G ((0 : Nat) : Int) ∧ h' = HT h r q (outF r q i 0 0)) := Tr.region fun s h hp => by
    obtain ⟨g0, g1, g2, g3, g4, g5, rfl⟩ := hp
    simp (disch := first|omega|exact zE rfl|exact zO|exact zL rfl) [c65_o5, size_mk, get_mk_lt, get_mk_ge, frameOf, Eff.app, Heap.setOwn, g0, g1, g2, g3, g4, g5]
  have t1 : Tr tbl J ((.trim L65b c65_b1)) (fun s h' => s.get [true] = .ptr h.size 0 64 ∧ s.get [false, false] = .ptr (h.size + 1) 0 64 ∧ s.get [true, false] = .ptr (h.size + 2) 0 64 ∧ s.get [false, true] = .ptr (h.size + 3) 0 64 ∧ s.get [true, true] = G i ∧ s.get [false, true, false] = G i ∧ s.get [true, false, true] = G ((8 : Nat) : Int) ∧ h' = HT h r q (outF r q i 8 0)) (.exit 2) (fun s h' => s.get [true] = .ptr h.size 0 64 ∧ s.get [false, false] = .ptr (h.size + 1) 0 64 ∧ s.get [true, false] = .ptr (h.size + 2) 0 64 ∧ s.get [false, true] = .ptr (h.size + 3) 0 64 ∧ s.get [false, true, false] = G i ∧ h' = HT h r q (outF r q i 8 0)) := Tr.region fun s h hp => by
    obtain ⟨g0, g1, g2, g3, g4, g5, g6, rfl⟩ := hp
    simp (disch := first|omega|exact zE rfl|exact zO|exact zL rfl) [c65_b1, c65_o6, size_mk, get_mk_lt, get_mk_ge, frameOf, Eff.app, Heap.setOwn, g0, g1, g2, g3, g4, g5, g6]
  refine Tr.seq t0 (Tr.block (Tr.rounds (P := fun j => (fun s h' => s.get [true] = .ptr h.size 0 64 ∧ s.get [false, false] = .ptr (h.size + 1) 0 64 ∧ s.get [true, false] = .ptr (h.size + 2) 0 64 ∧ s.get [false, true] = .ptr (h.size + 3) 0 64 ∧ s.get [true, true] = G i ∧ s.get [false, true, false] = G i ∧ s.get [true, false, true] = G j ∧ h' = HT h r q (outF r q i j 0))) (M := 8) (fun j hj => ?_) t1 (by simp) 0 (by omega)))
  have tk := tm_k (r := r) (q := q) J h hi hj
  rw [outF_nj r q i j hj] at tk
  have ta : Tr tbl J ((.trim L65b (.seq c65_o6 (.cond (.s [false, true, true]) .skip (.exit 2))))) (fun s h' => s.get [true] = .ptr h.size 0 64 ∧ s.get [false, false] = .ptr (h.size + 1) 0 64 ∧ s.get [true, false] = .ptr (h.size + 2) 0 64 ∧ s.get [false, true] = .ptr (h.size + 3) 0 64 ∧ s.get [true, true] = G i ∧ s.get [false, true, false] = G i ∧ s.get [true, false, true] = G j ∧ h' = HT h r q (outF r q i j 0)) .normal (fun s h' => s.get [true] = .ptr h.size 0 64 ∧ s.get [false, false] = .ptr (h.size + 1) 0 64 ∧ s.get [true, false] = .ptr (h.size + 2) 0 64 ∧ s.get [false, true] = .ptr (h.size + 3) 0 64 ∧ s.get [true, true] = G i ∧ s.get [false, true, false] = G i ∧ s.get [true, false, true] = G j ∧ h' = HT h r q (outF r q i j 0)) := Tr.region fun s h hp => by
    obtain ⟨g0, g1, g2, g3, g4, g5, g6, rfl⟩ := hp
    simp (disch := first|omega|exact zE rfl|exact zO|exact zL rfl) [c65_o6, size_mk, get_mk_lt, get_mk_ge, frameOf, Eff.app, Heap.setOwn, g0, g1, g2, g3, g4, g5, g6]
  have tb : Tr tbl J (c65_o7) (fun s h' => s.get [true] = .ptr h.size 0 64 ∧ s.get [false, false] = .ptr (h.size + 1) 0 64 ∧ s.get [true, false] = .ptr (h.size + 2) 0 64 ∧ s.get [false, true] = .ptr (h.size + 3) 0 64 ∧ s.get [true, true] = G i ∧ s.get [false, true, false] = G i ∧ s.get [true, false, true] = G j ∧ h' = HT h r q (outF r q i j 0)) .normal (fun s h' => s.get [true] = .ptr h.size 0 64 ∧ s.get [false, false] = .ptr (h.size + 1) 0 64 ∧ s.get [true, false] = .ptr (h.size + 2) 0 64 ∧ s.get [false, true] = .ptr (h.size + 3) 0 64 ∧ s.get [true, true] = G i ∧ s.get [false, false, false] = G j ∧ s.get [false, true, false] = G i ∧ s.get [true, false, true] = G j ∧ h' = HT h r q (outF r q i j 0)) := Tr.region fun s h hp => by
    obtain ⟨g0, g1, g2, g3, g4, g5, g6, rfl⟩ := hp
    simp (disch := first|omega|exact zE rfl|exact zO|exact zL rfl) [c65_o7, size_mk, get_mk_lt, get_mk_ge, frameOf, Eff.app, Heap.setOwn, g0, g1, g2, g3, g4, g5, g6]
  have te : Tr tbl J (c65_o13) (fun s h' => s.get [true] = .ptr h.size 0 64 ∧ s.get [false, false] = .ptr (h.size + 1) 0 64 ∧ s.get [true, false] = .ptr (h.size + 2) 0 64 ∧ s.get [false, true] = .ptr (h.size + 3) 0 64 ∧ s.get [true, true] = G i ∧ s.get [false, true, false] = G i ∧ s.get [true, false, true] = G j ∧ h' = HT h r q (outF r q i (j + 1) 0)) .normal (fun s h' => s.get [true] = .ptr h.size 0 64 ∧ s.get [false, false] = .ptr (h.size + 1) 0 64 ∧ s.get [true, false] = .ptr (h.size + 2) 0 64 ∧ s.get [false, true] = .ptr (h.size + 3) 0 64 ∧ s.get [true, true] = G i ∧ s.get [false, true, false] = G i ∧ s.get [true, false, true] = G ((j + 1 : Nat) : Int) ∧ h' = HT h r q (outF r q i (j + 1) 0)) := Tr.region fun s h hp => by
    obtain ⟨g0, g1, g2, g3, g4, g5, g6, rfl⟩ := hp
    simp (disch := first|omega|exact zE rfl|exact zO|exact zL rfl) [c65_o13, size_mk, get_mk_lt, get_mk_ge, frameOf, Eff.app, Heap.setOwn, g0, g1, g2, g3, g4, g5, g6]
  exact Tr.trim_assoc (Tr.trim_seq ta (Tr.seq (Tr.block_out (Tr.seq tb tk) (by simp)) te))
theorem tm_i (J : CallF) (h : Heap) :
    Tr tbl J (.seq c65_o2 (.block 0 c65_l2)) (fun s h' => s.get [true] = .ptr h.size 0 64 ∧ s.get [false, false] = .ptr (h.size + 1) 0 64 ∧ s.get [true, false] = .ptr (h.size + 2) 0 64 ∧ s.get [false, true] = .ptr (h.size + 3) 0 64 ∧ h' = HT h r q (outF r q 0 0 0)) .normal (fun s h' => s.get [true, false] = .ptr (h.size + 2) 0 64 ∧ s.get [false, true] = .ptr (h.size + 3) 0 64 ∧ h' = HT h r q (outF r q 8 0 0)) := by
  have t0 : Tr tbl J (c65_o2) (fun s h' => s.get [true] = .ptr h.size 0 64 ∧ s.get [false, false] = .ptr (h.size + 1) 0 64 ∧ s.get [true, false] = .ptr (h.size + 2) 0 64 ∧ s.get [false, true] = .ptr (h.size + 3) 0 64 ∧ h' = HT h r q (outF r q 0 0 0)) .normal (fun s h' => s.get [true] = .ptr h.size 0 64 ∧ s.get [false, false] = .ptr (h.size + 1) 0 64 ∧ s.get [true, false] = .ptr (h.size + 2) 0 64 ∧ s.get [false, true] = .ptr (h.size + 3) 0 64 ∧ s.get [false, true, false] = G ((0 : Nat) : Int) ∧ h' = HT h r q (outF r q 0 0 0)) := Tr.region fun s h hp => by
    obtain ⟨g0, g1, g2, g3, rfl⟩ := hp
    simp (disch := first|omega|exact zE rfl|exact zO|exact zL rfl) [c65_o2, size_mk, get_mk_lt, get_mk_ge, frameOf, Eff.app, Heap.setOwn, g0, g1, g2, g3]
  have t1 : Tr tbl J ((.trim L65c c65_b2)) (fun s h' => s.get [true] = .ptr h.size 0 64 ∧ s.get [false, false] = .ptr (h.size + 1) 0 64 ∧ s.get [true, false] = .ptr (h.size + 2) 0 64 ∧ s.get [false, true] = .ptr (h.size + 3) 0 64 ∧ s.get [false, true, false] = G ((8 : Nat) : Int) ∧ h' = HT h r q (outF r q 8 0 0)) (.exit 0) (fun s h' => s.get [true, false] = .ptr (h.size + 2) 0 64 ∧ s.get [false, true] = .ptr (h.size + 3) 0 64 ∧ h' = HT h r q (outF r q 8 0 0)) := Tr.region fun s h hp => by
    obtain ⟨g0, g1, g2, g3, g4, rfl⟩ := hp
    simp (disch := first|omega|exact zE rfl|exact zO|exact zL rfl) [c65_b2, c65_o3, size_mk, get_mk_lt, get_mk_ge, frameOf, Eff.app, Heap.setOwn, g0, g1, g2, g3, g4]
  refine Tr.seq t0 (Tr.block (Tr.rounds (P := fun i => (fun s h' => s.get [true] = .ptr h.size 0 64 ∧ s.get [false, false] = .ptr (h.size + 1) 0 64 ∧ s.get [true, false] = .ptr (h.size + 2) 0 64 ∧ s.get [false, true] = .ptr (h.size + 3) 0 64 ∧ s.get [false, true, false] = G i ∧ h' = HT h r q (outF r q i 0 0))) (M := 8) (fun i hi => ?_) t1 (by simp) 0 (by omega)))
  have tj := tm_j (r := r) (q := q) J h hi
  rw [outF_ni r q i] at tj
  have ta : Tr tbl J ((.trim L65c (.seq c65_o3 (.cond (.s [true, true, false]) .skip (.exit 0))))) (fun s h' => s.get [true] = .ptr h.size 0 64 ∧ s.get [false, false] = .ptr (h.size + 1) 0 64 ∧ s.get [true, false] = .ptr (h.size + 2) 0 64 ∧ s.get [false, true] = .ptr (h.size + 3) 0 64 ∧ s.get [false, true, false] = G i ∧ h' = HT h r q (outF r q i 0 0)) .normal (fun s h' => s.get [true] = .ptr h.size 0 64 ∧ s.get [false, false] = .ptr (h.size + 1) 0 64 ∧ s.get [true, false] = .ptr (h.size + 2) 0 64 ∧ s.get [false, true] = .ptr (h.size + 3) 0 64 ∧ s.get [false, true, false] = G i ∧ h' = HT h r q (outF r q i 0 0)) := Tr.region fun s h hp => by
    obtain ⟨g0, g1, g2, g3, g4, rfl⟩ := hp
    simp (disch := first|omega|exact zE rfl|exact zO|exact zL rfl) [c65_o3, size_mk, get_mk_lt, get_mk_ge, frameOf, Eff.app, Heap.setOwn, g0, g1, g2, g3, g4]
  have tb : Tr tbl J (c65_o4) (fun s h' => s.get [true] = .ptr h.size 0 64 ∧ s.get [false, false] = .ptr (h.size + 1) 0 64 ∧ s.get [true, false] = .ptr (h.size + 2) 0 64 ∧ s.get [false, true] = .ptr (h.size + 3) 0 64 ∧ s.get [false, true, false] = G i ∧ h' = HT h r q (outF r q i 0 0)) .normal (fun s h' => s.get [true] = .ptr h.size 0 64 ∧ s.get [false, false] = .ptr (h.size + 1) 0 64 ∧ s.get [true, false] = .ptr (h.size + 2) 0 64 ∧ s.get [false, true] = .ptr (h.size + 3) 0 64 ∧ s.get [true, true] = G i ∧ s.get [false, true, false] = G i ∧ h' = HT h r q (outF r q i 0 0)) := Tr.region fun s h hp => by
    obtain ⟨g0, g1, g2, g3, g4, rfl⟩ := hp
    simp (disch := first|omega|exact zE rfl|exact zO|exact zL rfl) [c65_o4, size_mk, get_mk_lt, get_mk_ge, frameOf, Eff.app, Heap.setOwn, g0, g1, g2, g3, g4]
  have te : Tr tbl J (c65_o14) (fun s h' => s.get [true] = .ptr h.size 0 64 ∧ s.get [false, false] = .ptr (h.size + 1) 0 64 ∧ s.get [true, false] = .ptr (h.size + 2) 0 64 ∧ s.get [false, true] = .ptr (h.size + 3) 0 64 ∧ s.get [false, true, false] = G i ∧ h' = HT h r q (outF r q (i + 1) 0 0)) .normal (fun s h' => s.get [true] = .ptr h.size 0 64 ∧ s.get [false, false] = .ptr (h.size + 1) 0 64 ∧ s.get [true, false] = .ptr (h.size + 2) 0 64 ∧ s.get [false, true] = .ptr (h.size + 3) 0 64 ∧ s.get [false, true, false] = G ((i + 1 : Nat) : Int) ∧ h' = HT h r q (outF r q (i + 1) 0 0)) := Tr.region fun s h hp => by
    obtain ⟨g0, g1, g2, g3, g4, rfl⟩ := hp
    simp (disch := first|omega|exact zE rfl|exact zO|exact zL rfl) [c65_o14, size_mk, get_mk_lt, get_mk_ge, frameOf, Eff.app, Heap.setOwn, g0, g1, g2, g3, g4]
  exact Tr.trim_assoc (Tr.trim_seq ta (Tr.seq (Tr.block_out (Tr.seq tb tj) (by simp)) te))
end
theorem c65_ok (J : CallF) (hJ : ∀ a h, J 65 a h = none) (h : Heap) (r q : Nat → Bool) : CallsTo tbl J 65 [.agg (bls r 64), .agg (bls q 64)] h (.agg (bls (tmf r q) 64), [], false) := by
  have fl : ∀ f : Nat → Bool, AV.flat (.agg (bls f 64)) = true := fun f => by
    show AV.flats (bls f 64) = true
    unfold bls
    induction List.range 64 with
    | nil => rfl
    | cons x xs ih => simp only [List.map_cons, AV.flats, AV.flat, ih, Bool.true_and]
  refine Tr.fnv (cf := c65) (e := .ret) (s := T.set (T.set .leaf [] (.agg (bls r 64))) [false] (.agg (bls q 64))) (by decide) rfl (hJ _ _) rfl rfl (fl _) (by simp) ?_
  have e0 : outF r q 0 0 0 = fun _ => false := by
    funext x
    unfold outF
    rw [if_neg (by omega)]
    split <;> rfl
  have e8 : bls (outF r q 8 0 0) 64 = bls (tmf r q) 64 := bls_ext _ _ _ fun x hx => by unfold outF; rw [if_pos (by omega)]
  have ti := tm_i (r := r) (q := q) J h
  rw [e0] at ti
  unfold HT at ti
  rw [e8] at ti
  have l1 : (bls r 64).length = 64 := bls_len _ _
  have l2 : (bls q 64).length = 64 := bls_len _ _
  have l3 : (bls (tmf r q) 64).length = 64 := bls_len _ _
  have l4 : (bls (fun _ => false) 64).length = 64 := bls_len _ _
  have rp := bls_rep 64
  generalize bls (tmf r q) 64 = ct at *
  generalize bls r 64 = cr at *
  generalize bls q 64 = cs at *
  generalize bls (fun _ => false) 64 = cz at *
  have t0 : Tr tbl J ((.seq c65_o0 c65_o1)) (fun s h' => s = T.set (T.set .leaf [] (.agg cr)) [false] (.agg cs) ∧ h' = frameOf h) .normal (fun s h' => s.get [true] = .ptr h.size 0 64 ∧ s.get [false, false] = .ptr (h.size + 1) 0 64 ∧ s.get [true, false] = .ptr (h.size + 2) 0 64 ∧ s.get [false, true] = .ptr (h.size + 3) 0 64 ∧ h' = ⟨h.get, h.size, [.cells 0 64 cr, .cells 0 64 cs, .cells 0 64 cz, .cells 0 64 cz]⟩) := Tr.region fun s h hp => by
    obtain ⟨rfl, rfl⟩ := hp
    simp (disch := first|omega|exact zE rfl|exact zO|exact zL rfl) [c65_o0, c65_o1, frameOf, size_mk, get_mk_lt, get_mk_ge, frameOf, Eff.app, Heap.setOwn, l1, l2, l4, rp]
  have t3 : Tr tbl J ((.seq c65_o15 .ret)) (fun s h' => s.get [true, false] = .ptr (h.size + 2) 0 64 ∧ s.get [false, true] = .ptr (h.size + 3) 0 64 ∧ h' = ⟨h.get, h.size, [.cells 0 64 cr, .cells 0 64 cs, .cells 0 64 cz, .cells 0 64 ct]⟩) .ret (fun s h' => s.get [true, false] = .ptr (h.size + 2) 0 64 ∧ h' = ⟨h.get, h.size, [.cells 0 64 cr, .cells 0 64 cs, .cells 0 64 ct, .cells 0 64 ct]⟩) := Tr.region fun s h hp => by
    obtain ⟨g0, g1, rfl⟩ := hp
    have et : ct.take 64 = ct := List.take_of_length_le (by omega)
    have ep : putAt cz 0 ct = ct := putAt_all _ _ (by omega)
    simp (disch := first|omega|exact zE rfl|exact zO|exact zL rfl) [c65_o15, size_mk, get_mk_lt, get_mk_ge, frameOf, Eff.app, Heap.setOwn, g0, g1, et, ep, l3, l4]
  refine Tr.post (fun s' h' q => ?_) (Tr.app2 t0 (Tr.seq ti t3))
  obtain ⟨q1, rfl⟩ := q
  have et : ct.take 64 = ct := List.take_of_length_le (by omega)
  simp [c65, evRess, evRes, q1, loadA, get_mk_ge, takeA, et, l3, one]
end Go.Proofs.Ytjeemgaoonapgaa.Ev
namespace Go.Proofs.Ytjeemgaoonapgaa.Ev
open Go Go.AEv
def ub : AV → Bool
  | .bool b => b
  | _ => false
def isB : AV → Bool
  | .bool _ => true
  | _ => false
def spec65 : SpecV
  | [.agg a, .agg b] => if a.length = 64 ∧ b.length = 64 ∧ a.all isB = true ∧ b.all isB = true then some (.agg (bls (tmf (fun x => ub (a.getD x .undef)) (fun x => ub (b.getD x .undef))) 64)) else none
  | _ => none
theorem bls_of (a : List AV) (n : Nat) (h : a.length = n) (hb : a.all isB = true) : a = bls (fun x => ub (a.getD x .undef)) n := by
  apply List.ext_getElem?
  intro i
  by_cases hi : i < n
  · rw [bls_at _ hi]
    have e : a[i]? = some a[i] := List.getElem?_eq_getElem (by omega)
    rw [List.getD_eq_getElem?_getD, e]
    have := (List.all_eq_true.1 hb) a[i] (List.getElem_mem _)
    cases hx : a[i] <;> rw [hx] at this <;> simp_all [isB, ub]
  · rw [List.getElem?_eq_none (by omega), List.getElem?_eq_none (by simp [bls_len]; omega)]
def R1 : CallF := addV noIntr 65 spec65
theorem s1 : Sound Go.Proofs.Try.prog R1 := Sound.addV follows ok Sound.empty (by decide) (fun args v h => by
  unfold spec65 at h
  split at h
  · split at h
    · rename_i a b hh
      obtain ⟨h1, h2, h3, h4⟩ := hh
      simp only [Option.some.injEq] at h; subst h
      rw [bls_of a 64 h1 h3, bls_of b 64 h2 h4]
      have := c65_ok noIntr (fun _ _ => rfl) e0 (fun x => ub (a.getD x .undef)) (fun x => ub (b.getD x .undef))
      rw [← bls_of a 64 h1 h3, ← bls_of b 64 h2 h4] at this ⊢
      exact this
    · cases h
  · cases h)
def isTrue0 : Option (AV × List AObj × Bool) → Bool
  | some (.bool true, [], false) => true
  | _ => false
set_option maxRecDepth 100000 in
theorem awake_run : isTrue0 ((evW tbl R1 60).call 23 [] e0) = true := by decide +kernel
end Go.Proofs.Ytjeemgaoonapgaa.Ev
set_option linter.unusedVariables false
set_option linter.unusedSimpArgs false
namespace Go.Proofs.Ytjeemgaoonapgaa.Ev
open Go Go.AEv
attribute [local simp] evFunc initS evOps_c evTrim_c evSkip_c evExit_c evRet_c evSeq_c evCond_c evBlock_c evDraw_c runOps_n runOps_c exec_n exec_g pure1_c act AOpd.ev T.get T.set T.put evBin evUn forceT_eq forceV_eq forceL_eq evRess evRes one keep runFP_n runFP_c app_none AV.flats AV.flat came_some List.getElem?_cons_zero List.getElem?_cons_succ beqT wrapI idxI tdivI tmodI decT decF ibT ibF inT inF evScope_c if_pos if_neg Cm_some thenW_n thenW_e thenW_r blkW_n blkW_e blkW_r goI kn putAt AV.cells fillA loadA takeA mk Eff.isAll Eff.isNone Eff.commutes Eff.spares okPair apart eqAgg fits LK.fits allEq aveq eqk mmA
abbrev gs (l : List Int) : List AV := l.map fun n => AV.int .i64 n
section
variable {tbl : Nat → Option CFunc} {I : CallF}
theorem Tr.fny {f : Nat} {cf : CFunc} {args : List AV} {h : Heap} {s : T} {e : AExit} {Good : AV → List AObj → Prop} (hf : f ≠ 0) (ht : tbl f = some cf) (hi : I f args h = none) (hsh : cf.shared = false) (hs : initS cf.params args .leaf = some s)
    (he : ∀ i, e ≠ .exit i) (hb : Tr tbl I cf.body (fun s' h' => s' = s ∧ h' = frameOf h) e (fun s' h' => ∃ vs, evRess h' s' cf.results = some vs ∧ Good (one vs) (if (one vs).flat then [] else h'.own))) : ∃ v own, CallsTo tbl I f args h (v, own, false) ∧ Good v own := by
  obtain ⟨s1, h1, r1, vs, q1, q2⟩ := hb s (frameOf h) ⟨rfl, rfl⟩
  exact ⟨_, _, CallsTo.fn hf ht hi hsh hs r1 he q1, q2⟩
theorem Tr.sh {f : Nat} {cf : CFunc} {args : List AV} {h : Heap} {s : T} {v : AV} {e : AExit} (hf : f ≠ 0) (ht : tbl f = some cf) (hi : I f args h = none) (hsh : cf.shared = true) (hs : initS cf.params args .leaf = some s)
    (he : ∀ i, e ≠ .exit i) (hb : Tr tbl I cf.body (fun s' h' => s' = s ∧ h' = h) e (fun s' h' => (∃ vs, evRess h' s' cf.results = some vs ∧ one vs = v) ∧ h' = h)) : CallsTo tbl I f args h (v, h.own, true) := by
  obtain ⟨s1, h1, r1, ⟨vs, q1, rfl⟩, rfl⟩ := hb s h ⟨rfl, rfl⟩
  exact CallsTo.shared hf ht hi hsh hs r1 he q1
end
def lst (h : Heap) : AV → Option (List Int)
  | .slice0 => some []
  | x => listOf h x
theorem lst_lr {h : Heap} {x : AV} {l : List Int} : lst h x = some l ↔ LR h x l := by
  constructor
  · intro e
    unfold lst at e
    split at e
    · cases e; exact .inr ⟨rfl, rfl⟩
    · exact .inl e
  · intro e
    rcases e.cases with ⟨rfl, rfl⟩ | ⟨rfl, rfl⟩ | ⟨b, v, rfl, g⟩
    · rfl
    · rfl
    · exact listOf_cells g rfl
theorem LR.inj {h : Heap} {x : AV} {a b : List Int} (e : LR h x a) (e' : LR h x b) : a = b := by
  have := lst_lr.2 e
  rw [lst_lr.2 e'] at this
  exact (Option.some.inj this).symm
def spec57 : SpecV
  | [.int .i64 n, .int .i64 lo, .int .i64 hi] => some (.bool (decide (lo ≤ n ∧ n ≤ hi)))
  | _ => none
theorem c57_ok (J : CallF) (hJ : ∀ a h, J 57 a h = none) (h : Heap) (n lo hi : Int) : CallsTo tbl J 57 [G n, G lo, G hi] h (.bool (decide (lo ≤ n ∧ n ≤ hi)), [], false) := by
  refine CallsTo.plain (cf := c57) (h' := frameOf h) (by decide) rfl (hJ _ _) rfl rfl ?_
  by_cases h1 : lo ≤ n
  · simp [c57, c57_o0, c57_o1, kn, h1]
  · simp [c57, c57_o0, c57_o1, kn, h1]
def R2 : CallF := addV R1 57 spec57
theorem s2 : Sound Go.Proofs.Try.prog R2 := Sound.addV follows ok s1 (by decide) (fun args v h => by
  unfold spec57 at h
  split at h
  · simp only [Option.some.injEq] at h; subst h; exact c57_ok R1 (fun _ _ => rfl) e0 _ _ _
  · cases h)
abbrev K57 (J : CallF) : Prop := ∀ (n lo hi : Int) (h : Heap), J 57 [G n, G lo, G hi] h = some (.bool (decide (lo ≤ n ∧ n ≤ hi)), [], false)
theorem k57 : K57 R2 := fun n lo hi h => by simp [R2, addV, spec57]
def spec23 : SpecV
  | [] => some (.bool true)
  | _ => none
theorem isTrue0_eq {x : Option (AV × List AObj × Bool)} (h : isTrue0 x = true) : x = some (.bool true, [], false) := by
  unfold isTrue0 at h
  split at h
  · rfl
  · cases h
def R3 : CallF := addV R2 23 spec23
theorem s3 : Sound Go.Proofs.Try.prog R3 := Sound.addV2 follows ok s2 s1 (by decide) (fun args v h => by
  unfold spec23 at h
  split at h
  · simp only [Option.some.injEq] at h; subst h; exact ⟨60, isTrue0_eq awake_run⟩
  · cases h)
theorem k23 (h : Heap) : R3 23 [] h = some (.bool true, [], false) := by simp [R3, addV, spec23]
def spec60 : SpecV
  | [.int .i64 a, .int .i64 b] => if 0 ≤ a ∧ a < 9223372036854775808 ∧ 0 ≤ b ∧ b < 9223372036854775808 then some (G (Nat.gcd a.toNat b.toNat)) else none
  | _ => none
theorem c60_loop (J : CallF) : ∀ (b a : Nat), a < 9223372036854775808 → b < 9223372036854775808 → Tr tbl J c60_l0 (fun s h => s.get [] = G a ∧ s.get [false] = G b) (.exit 0) (fun s h => s.get [] = G (Nat.gcd a b)) := by
  intro b
  induction b using Nat.strongRecOn with
  | _ b ih =>
    intro a ha hb
    by_cases hb0 : b = 0
    · subst hb0
      have t : Tr tbl J ((.trim [[], [false]] c60_b0)) (fun s h => s.get [] = G a ∧ s.get [false] = G ((0 : Nat) : Int)) (.exit 0) (fun s h => s.get [] = G a) := Tr.region fun s h hp => by
        obtain ⟨g0, g1⟩ := hp
        simp (disch := first|omega|exact zE rfl|exact zO|exact zL rfl) [-evDraw_c, c60_b0, c60_o1, frameOf, Heap.size, Heap.get, Eff.app, Heap.setOwn, g0, g1, evDraw_0]
      rw [Nat.gcd_zero_right]
      exact Tr.out t (by simp)
    · have hpos : 0 < b := Nat.pos_of_ne_zero hb0
      have hmod : (a : Int) % (b : Int) = ((a % b : Nat) : Int) := rfl
      have hlt := Nat.mod_lt a hpos
      generalize hr : a % b = r at *
      have t : Tr tbl J ((.trim [[], [false]] c60_b0)) (fun s h => s.get [] = G a ∧ s.get [false] = G b) .normal (fun s h => s.get [] = G b ∧ s.get [false] = G r) := Tr.region fun s h hp => by
        obtain ⟨g0, g1⟩ := hp
        simp (disch := first|omega|exact zE rfl|exact zO|exact zL rfl) [-evDraw_c, c60_b0, c60_o1, c60_o2, frameOf, Heap.size, Heap.get, Eff.app, Heap.setOwn, g0, g1, evDraw_0, hmod, hpos, hb0]
      have := ih r hlt b hb (by omega)
      rw [← hr, Nat.gcd_comm b (a % b), ← Nat.gcd_rec b a, Nat.gcd_comm b a] at this
      rw [← hr] at t
      exact Tr.next t this
theorem c60_ok (J : CallF) (hJ : ∀ a h, J 60 a h = none) (h : Heap) (a b : Nat) (ha : a < 9223372036854775808) (hb : b < 9223372036854775808) : CallsTo tbl J 60 [G a, G b] h (G (Nat.gcd a b), [], false) := by
  refine Tr.fnv (cf := c60) (e := .ret) (s := T.set (T.set .leaf [] (G a)) [false] (G b)) (by decide) rfl (hJ _ _) rfl rfl rfl (by simp) ?_
  have t0 : Tr tbl J (c60_o0) (fun s h' => s = T.set (T.set .leaf [] (G a)) [false] (G b) ∧ h' = frameOf h) .normal (fun s h => s.get [] = G a ∧ s.get [false] = G b) := Tr.region fun s h hp => by
    obtain ⟨rfl, rfl⟩ := hp
    simp (disch := first|omega|exact zE rfl|exact zO|exact zL rfl) [c60_o0, frameOf, Heap.size, Heap.get, Eff.app, Heap.setOwn]
  have t1 : Tr tbl J ((.seq c60_o3 .ret)) (fun s h => s.get [] = G (Nat.gcd a b)) .ret (fun s h => s.get [true, false] = G (Nat.gcd a b)) := Tr.region fun s h hp => by
    have g0 := hp
    simp (disch := first|omega|exact zE rfl|exact zO|exact zL rfl) [c60_o3, frameOf, Heap.size, Heap.get, Eff.app, Heap.setOwn, g0]
  exact Tr.post (fun s h q => by simp [c60, q]) (Tr.seq t0 (Tr.seq (Tr.block (c60_loop J b a ha hb)) t1))
def R4 : CallF := addV R3 60 spec60
theorem s4 : Sound Go.Proofs.Try.prog R4 := Sound.addV follows ok s3 (by decide) (fun args v h => by
  unfold spec60 at h
  split at h
  · rename_i a b
    split at h
    · rename_i hn
      simp only [Option.some.injEq] at h; subst h
      have := c60_ok R3 (fun _ _ => rfl) e0 a.toNat b.toNat (by omega) (by omega)
      rwa [Int.toNat_of_nonneg hn.1, Int.toNat_of_nonneg hn.2.2.1] at this
    · cases h
  · cases h)
theorem c76_loop (J : CallF) : ∀ (b a : Nat), a < 9223372036854775808 → b < 9223372036854775808 → Tr tbl J c76_l0 (fun s h => s.get [] = G a ∧ s.get [false] = G b) (.exit 0) (fun s h => s.get [] = G (Nat.gcd a b)) := by
  intro b
  induction b using Nat.strongRecOn with
  | _ b ih =>
    intro a ha hb
    by_cases hb0 : b = 0
    · subst hb0
      have t : Tr tbl J ((.trim [[], [false]] c76_b0)) (fun s h => s.get [] = G a ∧ s.get [false] = G ((0 : Nat) : Int)) (.exit 0) (fun s h => s.get [] = G a) := Tr.region fun s h hp => by
        obtain ⟨g0, g1⟩ := hp
        simp (disch := first|omega|exact zE rfl|exact zO|exact zL rfl) [c76_b0, c76_o1, frameOf, Heap.size, Heap.get, Eff.app, Heap.setOwn, g0, g1]
      rw [Nat.gcd_zero_right]
      exact Tr.out t (by simp)
    · have hpos : 0 < b := Nat.pos_of_ne_zero hb0
      have hmod : (a : Int) % (b : Int) = ((a % b : Nat) : Int) := rfl
      have hlt := Nat.mod_lt a hpos
      generalize hr : a % b = r at *
      have t : Tr tbl J ((.trim [[], [false]] c76_b0)) (fun s h => s.get [] = G a ∧ s.get [false] = G b) .normal (fun s h => s.get [] = G b ∧ s.get [false] = G r) := Tr.region fun s h hp => by
        obtain ⟨g0, g1⟩ := hp
        simp (disch := first|omega|exact zE rfl|exact zO|exact zL rfl) [c76_b0, c76_o1, c76_o2, c76_o3, c76_o4, frameOf, Heap.size, Heap.get, Eff.app, Heap.setOwn, g0, g1, hmod, hpos, hb0]
      have := ih r hlt b hb (by omega)
      rw [← hr, Nat.gcd_comm b (a % b), ← Nat.gcd_rec b a, Nat.gcd_comm b a] at this
      rw [← hr] at t
      exact Tr.next t this
theorem c76_ok (J : CallF) (hJ : ∀ a h, J 76 a h = none) (h : Heap) (a b : Nat) (ha : a < 9223372036854775808) (hb : b < 9223372036854775808) : CallsTo tbl J 76 [G a, G b] h (G (Nat.gcd a b), [], false) := by
  refine Tr.fnv (cf := c76) (e := .ret) (s := T.set (T.set .leaf [] (G a)) [false] (G b)) (by decide) rfl (hJ _ _) rfl rfl rfl (by simp) ?_
  have t0 : Tr tbl J (c76_o0) (fun s h' => s = T.set (T.set .leaf [] (G a)) [false] (G b) ∧ h' = frameOf h) .normal (fun s h => s.get [] = G a ∧ s.get [false] = G b) := Tr.region fun s h hp => by
    obtain ⟨rfl, rfl⟩ := hp
    simp (disch := first|omega|exact zE rfl|exact zO|exact zL rfl) [c76_o0, frameOf, Heap.size, Heap.get, Eff.app, Heap.setOwn]
  have t1 : Tr tbl J ((.seq c76_o5 .ret)) (fun s h => s.get [] = G (Nat.gcd a b)) .ret (fun s h => s.get [true, false] = G (Nat.gcd a b)) := Tr.region fun s h hp => by
    have g0 := hp
    simp (disch := first|omega|exact zE rfl|exact zO|exact zL rfl) [c76_o5, frameOf, Heap.size, Heap.get, Eff.app, Heap.setOwn, g0]
  exact Tr.post (fun s h q => by simp [c76, q]) (Tr.seq t0 (Tr.seq (Tr.block (c76_loop J b a ha hb)) t1))
def R5 : CallF := addV R4 76 spec60
theorem s5 : Sound Go.Proofs.Try.prog R5 := Sound.addV follows ok s4 (by decide) (fun args v h => by
  unfold spec60 at h
  split at h
  · rename_i a b
    split at h
    · rename_i hn
      simp only [Option.some.injEq] at h; subst h
      have := c76_ok R4 (fun _ _ => rfl) e0 a.toNat b.toNat (by omega) (by omega)
      rwa [Int.toNat_of_nonneg hn.1, Int.toNat_of_nonneg hn.2.2.1] at this
    · cases h
  · cases h)
abbrev K76 (J : CallF) : Prop := ∀ (a b : Int) (h : Heap), 0 ≤ a → a < 9223372036854775808 → 0 ≤ b → b < 9223372036854775808 → J 76 [G a, G b] h = some (G (Nat.gcd a.toNat b.toNat), [], false)
theorem k76 : K76 R5 := fun a b h h1 h2 h3 h4 => by simp [R5, addV, spec60, h1, h2, h3, h4]
def fr (num den : Int) : AV := .agg [G (num / (Nat.gcd num.toNat den.toNat : Int)), G (den / (Nat.gcd num.toNat den.toNat : Int))]
def spec61 : SpecV
  | [.int .i64 num, .int .i64 den] => if 0 ≤ num ∧ num < 9223372036854775808 ∧ 0 < den ∧ den < 9223372036854775808 then some (fr num den) else none
  | _ => none
theorem c61_ok (J : CallF) (hJ : ∀ a h, J 61 a h = none) (k76 : K76 J) (num den : Int) (h1 : 0 ≤ num) (h2 : num < 9223372036854775808) (h3 : 0 < den) (h4 : den < 9223372036854775808) : CallsTo tbl J 61 [G num, G den] e0 (fr num den, [], false) := by
  have hk := fun h => k76 num den h h1 h2 (by omega) h4
  have hg : 0 < Nat.gcd num.toNat den.toNat := Nat.gcd_pos_of_pos_right _ (by omega)
  unfold fr
  generalize Nat.gcd num.toNat den.toNat = g at *
  have hg0 : ¬ (g : Int) = 0 := by omega
  have hg1 : ¬ g = 0 := by omega
  have q1 : num.tdiv (g : Int) = num / (g : Int) := Int.tdiv_eq_ediv_of_nonneg h1
  have q2 : den.tdiv (g : Int) = den / (g : Int) := Int.tdiv_eq_ediv_of_nonneg (by omega)
  have b1 : 0 ≤ num / (g : Int) := Int.ediv_nonneg h1 (by omega)
  have b2 : num / (g : Int) ≤ num := Int.ediv_le_self _ h1
  have b3 : 0 ≤ den / (g : Int) := Int.ediv_nonneg (by omega) (by omega)
  have b4 : den / (g : Int) ≤ den := Int.ediv_le_self _ (by omega)
  have w1 : IntKind.i64.wrap (num / (g : Int)) = num / (g : Int) := wrapI _ (by omega) (by omega)
  have w2 : IntKind.i64.wrap (den / (g : Int)) = den / (g : Int) := wrapI _ (by omega) (by omega)
  refine CallsTo.plain (cf := c61) (h' := ⟨e0.get, 0, [.cells 0 2 [G (num / (g : Int)), G (den / (g : Int))]]⟩) (by decide) rfl (hJ _ _) rfl rfl ?_
  simp [c61, c61_o0, c61_o1, c61_o2, kn, hk, hg0, hg1, q1, q2, w1, w2, mk, frameOf, Heap.size, e0, Eff.app, Heap.setOwn, Heap.get, putAt, fillA, AV.cells, loadA, takeA, Eff.isAll, -evDraw_c, evDraw_0, okPair, Eff.commutes, Eff.spares, apart]
def R6 : CallF := addV R5 61 spec61
theorem s6 : Sound Go.Proofs.Try.prog R6 := Sound.addV follows ok s5 (by decide) (fun args v h => by
  unfold spec61 at h
  split at h
  · rename_i a b
    split at h
    · rename_i hn
      simp only [Option.some.injEq] at h; subst h
      exact c61_ok R5 (fun _ _ => rfl) k76 a b hn.1 hn.2.1 hn.2.2.1 hn.2.2.2
    · cases h
  · cases h)
def bnd : Nat → Option (Int × Int)
  | 56 => some (0, 100000000)
  | 59 => some (1, 100000000)
  | 77 => some (0, 9)
  | _ => none
def spec77 (lo hi : Int) : SpecF := fun args h => match args with
  | [.int .i64 a] => some (.bool (!decide (lo ≤ a ∧ a ≤ hi)), h.own, true)
  | _ => none
theorem c77_ok (J : CallF) (k57 : K57 J) (hJ : ∀ a h, J 77 a h = none) (h : Heap) (a : Int) : CallsTo tbl J 77 [G a] h (.bool (!decide (0 ≤ a ∧ a ≤ 9)), h.own, true) := by
  refine Tr.sh (cf := c77) (e := .ret) (s := T.set .leaf [] (G a)) (by decide) rfl (hJ _ _) rfl rfl (by simp) ?_
  have k := k57 a 0 9 h
  generalize decide (0 ≤ a ∧ a ≤ 9) = b at *
  have t : Tr tbl J ((.seq c77_o0 (.seq c77_o1 .ret))) (fun s h' => s = T.set .leaf [] (G a) ∧ h' = h) .ret (fun s h' => s.get [true] = .bool (!b) ∧ h' = h) := Tr.region fun s h hp => by
    obtain ⟨rfl, rfl⟩ := hp
    simp (disch := first|omega|exact zE rfl|exact zO|exact zL rfl) [c77_o0, c77_o1, zG, k]
  exact Tr.post (fun s h' q => ⟨by simp [c77, q.1], q.2⟩) t
theorem c56_ok (J : CallF) (k57 : K57 J) (hJ : ∀ a h, J 56 a h = none) (h : Heap) (a : Int) : CallsTo tbl J 56 [G a] h (.bool (!decide (0 ≤ a ∧ a ≤ 100000000)), h.own, true) := by
  refine Tr.sh (cf := c56) (e := .ret) (s := T.set .leaf [] (G a)) (by decide) rfl (hJ _ _) rfl rfl (by simp) ?_
  have k := k57 a 0 100000000 h
  generalize decide (0 ≤ a ∧ a ≤ 100000000) = b at *
  have t : Tr tbl J ((.seq c56_o0 (.seq c56_o1 .ret))) (fun s h' => s = T.set .leaf [] (G a) ∧ h' = h) .ret (fun s h' => s.get [true] = .bool (!b) ∧ h' = h) := Tr.region fun s h hp => by
    obtain ⟨rfl, rfl⟩ := hp
    simp (disch := first|omega|exact zE rfl|exact zO|exact zL rfl) [c56_o0, c56_o1, zG, k]
  exact Tr.post (fun s h' q => ⟨by simp [c56, q.1], q.2⟩) t
theorem c59_ok (J : CallF) (k57 : K57 J) (hJ : ∀ a h, J 59 a h = none) (h : Heap) (a : Int) : CallsTo tbl J 59 [G a] h (.bool (!decide (1 ≤ a ∧ a ≤ 100000000)), h.own, true) := by
  refine Tr.sh (cf := c59) (e := .ret) (s := T.set .leaf [] (G a)) (by decide) rfl (hJ _ _) rfl rfl (by simp) ?_
  have k := k57 a 1 100000000 h
  generalize decide (1 ≤ a ∧ a ≤ 100000000) = b at *
  have t : Tr tbl J ((.seq c59_o0 (.seq c59_o1 .ret))) (fun s h' => s = T.set .leaf [] (G a) ∧ h' = h) .ret (fun s h' => s.get [true] = .bool (!b) ∧ h' = h) := Tr.region fun s h hp => by
    obtain ⟨rfl, rfl⟩ := hp
    simp (disch := first|omega|exact zE rfl|exact zO|exact zL rfl) [c59_o0, c59_o1, zG, k]
  exact Tr.post (fun s h' q => ⟨by simp [c59, q.1], q.2⟩) t
def R7 : CallF := addI R6 77 (spec77 0 9)
theorem s7 : Sound Go.Proofs.Try.prog R7 := Sound.add follows ok s6 (by decide) (fun args h x e => by
  unfold spec77 at e
  split at e
  · simp only [Option.some.injEq] at e; subst e; exact c77_ok R6 (fun n lo hi h => k57 n lo hi h) (fun _ _ => rfl) h _
  · cases e)
def R8 : CallF := addI R7 56 (spec77 0 100000000)
theorem s8 : Sound Go.Proofs.Try.prog R8 := Sound.add follows ok s7 (by decide) (fun args h x e => by
  unfold spec77 at e
  split at e
  · simp only [Option.some.injEq] at e; subst e; exact c56_ok R7 (fun n lo hi h => k57 n lo hi h) (fun _ _ => rfl) h _
  · cases e)
def R9 : CallF := addI R8 59 (spec77 1 100000000)
theorem s9 : Sound Go.Proofs.Try.prog R9 := Sound.add follows ok s8 (by decide) (fun args h x e => by
  unfold spec77 at e
  split at e
  · simp only [Option.some.injEq] at e; subst e; exact c59_ok R8 (fun n lo hi h => k57 n lo hi h) (fun _ _ => rfl) h _
  · cases e)
abbrev Kbn (J : CallF) : Prop := ∀ (f : Nat) (lo hi a : Int) (h : Heap), bnd f = some (lo, hi) → J f [G a] h = some (.bool (!decide (lo ≤ a ∧ a ≤ hi)), h.own, true)
theorem kbn9 : Kbn R9 := fun f lo hi a h e => by
  unfold bnd at e
  split at e <;> cases e
  all_goals simp [R9, R8, R7, addI, spec77]
def fnd (lo hi : Int) : List Int → Nat → Int
  | [], _ => -1
  | a :: r, i => if lo ≤ a ∧ a ≤ hi then fnd lo hi r (i + 1) else i
def allIn (lo hi : Int) (A : List Int) : Bool := A.all fun a => decide (lo ≤ a ∧ a ≤ hi)
theorem fnd_neg (lo hi : Int) : ∀ (A : List Int) (i : Nat), -1 ≤ fnd lo hi A i ∧ (fnd lo hi A i < 0 ↔ allIn lo hi A = true)
  | [], i => by simp [fnd, allIn]
  | a :: r, i => by
    have h := fnd_neg lo hi r (i + 1)
    unfold fnd
    by_cases c : lo ≤ a ∧ a ≤ hi
    · rw [if_pos c]
      refine ⟨h.1, h.2.trans ?_⟩
      simp [allIn, c]
    · rw [if_neg c]
      refine ⟨by omega, ⟨fun q => by omega, fun q => ?_⟩⟩
      simp only [allIn, List.all_cons, Bool.and_eq_true, decide_eq_true_eq] at q
      exact absurd q.1 c
section
variable {f : Nat} {lo hi : Int} {b v n : Nat} {A : List Int}
theorem c78_loop (J : CallF) (kb : Kbn J) (hf : bnd f = some (lo, hi)) (h : Heap) {ca : List AV} (ha : h.get b = .cells 1 v ca) (hca : ∀ i : Nat, ca[i]? = (A[i]?).map fun n => AV.int .i64 n) (la : A.length = n) (hn : n < 9223372036854775808) :
    ∀ j i, i + j = n → (allIn lo hi (A.drop i) = true → Tr tbl J c78_l0 (fun s h' => s.get [] = .slice b 0 n v ∧ s.get [false] = .func f [] ∧ s.get [false, false, false] = G n ∧ s.get [true, false, false] = G i ∧ h' = ⟨h.get, h.size, []⟩) (.exit 0) (fun s h => True)) ∧
      (allIn lo hi (A.drop i) = false → Tr tbl J c78_l0 (fun s h' => s.get [] = .slice b 0 n v ∧ s.get [false] = .func f [] ∧ s.get [false, false, false] = G n ∧ s.get [true, false, false] = G i ∧ h' = ⟨h.get, h.size, []⟩) .ret (fun s h => s.get [true, false] = G (fnd lo hi (A.drop i) i))) := by
  have h1 := get_lt ha (by simp)
  have hf0 : f ≠ 0 := fun e => by subst e; cases hf
  intro j
  induction j with
  | zero =>
    intro i hi'
    obtain rfl : i = n := by omega
    have e1 : A.drop i = [] := List.drop_of_length_le (by omega)
    rw [e1]
    refine ⟨fun _ => ?_, fun hne => by cases hne⟩
    have t : Tr tbl J ((.trim [[], [false], [false, false, false], [true, false, false]] c78_b0)) (fun s h' => s.get [] = .slice b 0 i v ∧ s.get [false] = .func f [] ∧ s.get [false, false, false] = G i ∧ s.get [true, false, false] = G i ∧ h' = ⟨h.get, h.size, []⟩) (.exit 0) (fun s h => True) := Tr.region fun s h hp => by
      obtain ⟨g0, g1, g2, g3, rfl⟩ := hp
      simp (disch := first|omega|exact zE rfl|exact zO|exact zL rfl) [c78_b0, c78_o2, size_mk, get_mk_lt, get_mk_ge, frameOf, Eff.app, Heap.setOwn, g0, g1, g2, g3]
    exact Tr.out t (by simp)
  | succ j ih =>
    intro i hi'
    have hia : i < A.length := by omega
    have ea : A[i]? = some A[i] := List.getElem?_eq_getElem hia
    have da : A.drop i = A[i] :: A.drop (i + 1) := List.drop_eq_getElem_cons hia
    rw [da]
    have xa := hca i
    rw [ea] at xa
    simp only [Option.map_some] at xa
    clear ea da hca
    generalize A[i] = p at *
    have ih' := ih (i + 1) (by omega)
    have kp := kb f lo hi p ⟨h.get, h.size, []⟩ hf
    by_cases hp : lo ≤ p ∧ p ≤ hi
    · rw [show decide (lo ≤ p ∧ p ≤ hi) = true from decide_eq_true hp] at kp
      have t : Tr tbl J ((.trim [[], [false], [false, false, false], [true, false, false]] c78_b0)) (fun s h' => s.get [] = .slice b 0 n v ∧ s.get [false] = .func f [] ∧ s.get [false, false, false] = G n ∧ s.get [true, false, false] = G i ∧ h' = ⟨h.get, h.size, []⟩) .normal (fun s h' => s.get [] = .slice b 0 n v ∧ s.get [false] = .func f [] ∧ s.get [false, false, false] = G n ∧ s.get [true, false, false] = G ((i + 1 : Nat) : Int) ∧ h' = ⟨h.get, h.size, []⟩) := Tr.region fun s h hp => by
        obtain ⟨g0, g1, g2, g3, rfl⟩ := hp
        simp (disch := first|omega|exact zE rfl|exact zO|exact zL rfl) [c78_b0, c78_o2, c78_o3, c78_o4, c78_o6, size_mk, get_mk_lt, get_mk_ge, frameOf, Eff.app, Heap.setOwn, g0, g1, g2, g3, ha, xa, kp, hf0]
      have e1 : allIn lo hi (p :: A.drop (i + 1)) = allIn lo hi (A.drop (i + 1)) := by simp [allIn, hp]
      have e2 : fnd lo hi (p :: A.drop (i + 1)) i = fnd lo hi (A.drop (i + 1)) (i + 1) := by
        show (if lo ≤ p ∧ p ≤ hi then _ else _) = _
        rw [if_pos hp]
      rw [e1, e2]
      exact ⟨fun e => Tr.next t (ih'.1 e), fun e => Tr.next t (ih'.2 e)⟩
    · rw [show decide (lo ≤ p ∧ p ≤ hi) = false from decide_eq_false hp] at kp
      refine ⟨fun e => by simp [allIn, hp] at e, fun _ => ?_⟩
      have e2 : fnd lo hi (p :: A.drop (i + 1)) i = i := by
        show (if lo ≤ p ∧ p ≤ hi then _ else _) = _
        rw [if_neg hp]
      rw [e2]
      have t : Tr tbl J ((.trim [[], [false], [false, false, false], [true, false, false]] c78_b0)) (fun s h' => s.get [] = .slice b 0 n v ∧ s.get [false] = .func f [] ∧ s.get [false, false, false] = G n ∧ s.get [true, false, false] = G i ∧ h' = ⟨h.get, h.size, []⟩) .ret (fun s h => s.get [true, false] = G i) := Tr.region fun s h hp => by
        obtain ⟨g0, g1, g2, g3, rfl⟩ := hp
        simp (disch := first|omega|exact zE rfl|exact zO|exact zL rfl) [c78_b0, c78_o2, c78_o3, c78_o4, c78_o5, size_mk, get_mk_lt, get_mk_ge, frameOf, Eff.app, Heap.setOwn, g0, g1, g2, g3, ha, xa, kp, hf0]
      exact Tr.out t (by simp)
theorem c78_ok (J : CallF) (kb : Kbn J) (hJ : ∀ a h, J 78 a h = none) (hf : bnd f = some (lo, hi)) (h : Heap) {x : AV} (hx : LR h x A) (hn : A.length < 9223372036854775808) : CallsTo tbl J 78 [x, .func f []] h (G (fnd lo hi A 0), [], false) := by
  refine Tr.fnv (cf := c78) (e := .ret) (s := T.set (T.set .leaf [] x) [false] (.func f [])) (by decide) rfl (hJ _ _) rfl rfl rfl (by simp) ?_
  have t0 : Tr tbl J (c78_o0) (fun s h' => s = T.set (T.set .leaf [] x) [false] (.func f []) ∧ h' = frameOf h) .normal (fun s h' => s.get [] = x ∧ s.get [false] = .func f [] ∧ h' = ⟨h.get, h.size, []⟩) := Tr.region fun s h hp => by
    obtain ⟨rfl, rfl⟩ := hp
    simp (disch := first|omega|exact zE rfl|exact zO|exact zL rfl) [c78_o0, frameOf, Heap.size, Heap.get, Eff.app, Heap.setOwn]
  have t3 : Tr tbl J ((.seq c78_o7 .ret)) (fun s h => True) .ret (fun s h => s.get [true, false] = G (-1)) := Tr.region fun s h hp => by
    simp (disch := first|omega|exact zE rfl|exact zO|exact zL rfl) [c78_o7, frameOf, Heap.size, Heap.get, Eff.app, Heap.setOwn]
  have nil : ∀ y, (y = .nils ∨ y = .slice0) → x = y → A = [] → Tr tbl J (.seq c78_o1 (.block 0 c78_l0)) (fun s h' => s.get [] = x ∧ s.get [false] = .func f [] ∧ h' = ⟨h.get, h.size, []⟩) .normal (fun s h => True) := fun y hy e _ => by
    subst e
    have t1 : Tr tbl J (c78_o1) (fun s h' => s.get [] = x ∧ s.get [false] = .func f [] ∧ h' = ⟨h.get, h.size, []⟩) .normal (fun s h' => s.get [] = x ∧ s.get [false] = .func f [] ∧ s.get [false, false, false] = G ((0 : Nat) : Int) ∧ s.get [true, false, false] = G ((0 : Nat) : Int) ∧ h' = ⟨h.get, h.size, []⟩) := Tr.region fun s h hp => by
      obtain ⟨g0, g1, rfl⟩ := hp
      rcases hy with rfl | rfl <;> simp (disch := first|omega|exact zE rfl|exact zO|exact zL rfl) [c78_o1, size_mk, get_mk_lt, get_mk_ge, frameOf, Eff.app, Heap.setOwn, g0, g1]
    have t2 : Tr tbl J ((.trim [[], [false], [false, false, false], [true, false, false]] c78_b0)) (fun s h' => s.get [] = x ∧ s.get [false] = .func f [] ∧ s.get [false, false, false] = G ((0 : Nat) : Int) ∧ s.get [true, false, false] = G ((0 : Nat) : Int) ∧ h' = ⟨h.get, h.size, []⟩) (.exit 0) (fun s h => True) := Tr.region fun s h hp => by
      obtain ⟨g0, g1, g2, g3, rfl⟩ := hp
      simp (disch := first|omega|exact zE rfl|exact zO|exact zL rfl) [c78_b0, c78_o2, size_mk, get_mk_lt, get_mk_ge, frameOf, Eff.app, Heap.setOwn, g0, g1, g2, g3]
    exact Tr.seq t1 (Tr.block (Tr.out t2 (by simp)))
  rcases hx.cases with ⟨e, hA⟩ | ⟨e, hA⟩ | ⟨b, v, rfl, g⟩
  · have t1 := nil _ (.inl rfl) e hA
    subst hA
    exact Tr.post (fun s h q => by simp [c78, q, fnd]) (Tr.seq t0 (Tr.seq t1 t3))
  · have t1 := nil _ (.inr rfl) e hA
    subst hA
    exact Tr.post (fun s h q => by simp [c78, q, fnd]) (Tr.seq t0 (Tr.seq t1 t3))
  ·
    have t1 : Tr tbl J (c78_o1) (fun s h' => s.get [] = .slice b 0 A.length v ∧ s.get [false] = .func f [] ∧ h' = ⟨h.get, h.size, []⟩) .normal (fun s h' => s.get [] = .slice b 0 A.length v ∧ s.get [false] = .func f [] ∧ s.get [false, false, false] = G A.length ∧ s.get [true, false, false] = G ((0 : Nat) : Int) ∧ h' = ⟨h.get, h.size, []⟩) := Tr.region fun s h hp => by
      obtain ⟨g0, g1, rfl⟩ := hp
      simp (disch := first|omega|exact zE rfl|exact zO|exact zL rfl) [c78_o1, size_mk, get_mk_lt, get_mk_ge, frameOf, Eff.app, Heap.setOwn, g0, g1]
    obtain ⟨l1, l2⟩ := c78_loop J kb hf h g (fun i => List.getElem?_map) rfl hn A.length 0 (by omega)
    rw [List.drop_zero] at l1 l2
    by_cases e : allIn lo hi A = true
    · have hm := fnd_neg lo hi A 0
      have : fnd lo hi A 0 = -1 := by have := hm.2.2 e; omega
      rw [this]
      exact Tr.post (fun s h q => by simp [c78, q]) (Tr.seq t0 (Tr.seq (Tr.seq t1 (Tr.block (l1 e))) t3))
    · exact Tr.post (fun s h q => by simp [c78, q]) (Tr.seq t0 (Tr.seq_out (Tr.seq t1 (Tr.block_out (l2 (by simpa using e)) (by simp))) (by simp)))
end
def spec78 : SpecF := fun args h => match args with
  | [x, .func f []] => match bnd f, lst h x with
    | some (lo, hi), some A => if A.length < 9223372036854775808 then some (G (fnd lo hi A 0), [], false) else none
    | _, _ => none
  | _ => none
def R10 : CallF := addI R9 78 spec78
theorem s10 : Sound Go.Proofs.Try.prog R10 := Sound.add follows ok s9 (by decide) (fun args h x e => by
  unfold spec78 at e
  split at e
  · split at e
    · rename_i h1 h2
      split at e
      · rename_i hn
        simp only [Option.some.injEq] at e; subst e; exact c78_ok R9 kbn9 (fun _ _ => rfl) h1 h (lst_lr.1 h2) hn
      · cases e
    · cases e
  · cases e)
def spec55 : SpecF := fun args h => match args with
  | [x, .func f []] => match bnd f, lst h x with
    | some (lo, hi), some A => if A.length < 9223372036854775808 then some (.bool (!allIn lo hi A), [], false) else none
    | _, _ => none
  | _ => none
theorem c55_ok (J : CallF) (hJ : ∀ a h, J 55 a h = none) {f : Nat} {lo hi : Int} {A : List Int} (h : Heap) (x : AV) (k78 : ∀ h', (∃ own, h' = (⟨h.get, h.size, own⟩ : Heap)) → J 78 [x, .func f []] h' = some (G (fnd lo hi A 0), [], false)) : CallsTo tbl J 55 [x, .func f []] h (.bool (!allIn lo hi A), [], false) := by
  refine Tr.fnv (cf := c55) (e := .ret) (s := T.set (T.set .leaf [] x) [false] (.func f [])) (by decide) rfl (hJ _ _) rfl rfl rfl (by simp) ?_
  have hm := fnd_neg lo hi A 0
  have k := k78 ⟨h.get, h.size, []⟩ ⟨_, rfl⟩
  have hb : decide (0 ≤ fnd lo hi A 0) = !allIn lo hi A := by
    cases e : allIn lo hi A
    · simp only [Bool.not_false, decide_eq_true_eq]
      rcases Int.lt_or_le (fnd lo hi A 0) 0 with q | q
      · rw [hm.2.1 q] at e; cases e
      · exact q
    · simp only [Bool.not_true, decide_eq_false_iff_not]
      have := hm.2.2 e; omega
  rw [← hb]
  generalize fnd lo hi A 0 = z at *
  have t : Tr tbl J ((.seq c55_o0 (.seq c55_o1 .ret))) (fun s h' => s = T.set (T.set .leaf [] x) [false] (.func f []) ∧ h' = frameOf h) .ret (fun s h => s.get [true, false] = .bool (decide (0 ≤ z))) := Tr.region fun s h hp => by
    obtain ⟨rfl, rfl⟩ := hp
    simp (disch := first|omega|exact zE rfl|exact zO|exact zL rfl) [c55_o0, c55_o1, frameOf, size_mk, get_mk_lt, get_mk_ge, frameOf, Eff.app, Heap.setOwn, k]
  exact Tr.post (fun s h q => by simp [c55, q]) t
def R11 : CallF := addI R10 55 spec55
theorem s11 : Sound Go.Proofs.Try.prog R11 := Sound.add follows ok s10 (by decide) (fun args h x e => by
  unfold spec55 at e
  split at e
  · split at e
    · rename_i h1 h2
      split at e
      · rename_i hn
        simp only [Option.some.injEq] at e; subst e
        refine c55_ok R10 (fun _ _ => rfl) h _ ?_
        rintro h' ⟨own, rfl⟩
        simp only [R10, addI, if_true, spec78, h1, lst_lr.2 ((lst_lr.1 h2).lo own), if_pos hn]
      · cases e
    · cases e
  · cases e)
abbrev K55 (J : CallF) : Prop := ∀ (f : Nat) (lo hi : Int) (h : Heap) (x : AV) (A : List Int), bnd f = some (lo, hi) → LR h x A → A.length < 9223372036854775808 → J 55 [x, .func f []] h = some (.bool (!allIn lo hi A), [], false)
theorem k55 : K55 R11 := fun f lo hi h x A hf hx hn => by
  simp only [R11, addI, if_true, spec55, hf, lst_lr.2 hx, if_pos hn]
section
variable {a b : List Int} {b1 b2 v1 v2 n : Nat}
theorem ints_loop (J : CallF) (h : Heap) {ca cb : List AV} (ha : h.get b1 = .cells 1 v1 ca) (hb : h.get b2 = .cells 1 v2 cb) (hca : ∀ i : Nat, ca[i]? = (a[i]?).map fun n => AV.int .i64 n) (hcb : ∀ i : Nat, cb[i]? = (b[i]?).map fun n => AV.int .i64 n) (la : a.length = n) (lb : b.length = n) (hn : n ≤ 1000000) :
    ∀ j i, i + j = n → (a.drop i = b.drop i → Tr tbl J c24_l0 (fun s h' => s.get [] = .slice b1 0 n v1 ∧ s.get [false] = .slice b2 0 n v2 ∧ s.get [false, true] = G i ∧ h' = ⟨h.get, h.size, []⟩) (.exit 0) (fun s h => True)) ∧
      (a.drop i ≠ b.drop i → Tr tbl J c24_l0 (fun s h' => s.get [] = .slice b1 0 n v1 ∧ s.get [false] = .slice b2 0 n v2 ∧ s.get [false, true] = G i ∧ h' = ⟨h.get, h.size, []⟩) .ret (fun s h => s.get [true, false] = .bool false)) := by
  have h1 := get_lt ha (by simp)
  have h2 := get_lt hb (by simp)
  intro j
  induction j with
  | zero =>
    intro i hi
    obtain rfl : i = n := by omega
    have e1 : a.drop i = [] := List.drop_of_length_le (by omega)
    have e2 : b.drop i = [] := List.drop_of_length_le (by omega)
    refine ⟨fun _ => ?_, fun hne => absurd (e1.trans e2.symm) hne⟩
    have t : Tr tbl J ((.trim [[], [false], [false, true]] c24_b0)) (fun s h' => s.get [] = .slice b1 0 i v1 ∧ s.get [false] = .slice b2 0 i v2 ∧ s.get [false, true] = G i ∧ h' = ⟨h.get, h.size, []⟩) (.exit 0) (fun s h => True) := Tr.region fun s h hp => by
      obtain ⟨g0, g1, g2, rfl⟩ := hp
      simp (disch := first|omega|exact zE rfl|exact zO|exact zL rfl) [c24_b0, c24_o4, size_mk, get_mk_lt, get_mk_ge, frameOf, Eff.app, Heap.setOwn, g0, g1, g2]
    exact Tr.out t (by simp)
  | succ j ih =>
    intro i hi
    have hia : i < a.length := by omega
    have hib : i < b.length := by omega
    have ea : a[i]? = some a[i] := List.getElem?_eq_getElem hia
    have eb : b[i]? = some b[i] := List.getElem?_eq_getElem hib
    have da : a.drop i = a[i] :: a.drop (i + 1) := List.drop_eq_getElem_cons hia
    have db : b.drop i = b[i] :: b.drop (i + 1) := List.drop_eq_getElem_cons hib
    rw [da, db]
    have xa := hca i
    have xb := hcb i
    rw [ea] at xa
    rw [eb] at xb
    simp only [Option.map_some] at xa xb
    clear ea eb da db hca hcb
    generalize a[i] = p at *
    generalize b[i] = q at *
    have ih' := ih (i + 1) (by omega)
    by_cases hpq : p = q
    · subst hpq
      have t : Tr tbl J ((.trim [[], [false], [false, true]] c24_b0)) (fun s h' => s.get [] = .slice b1 0 n v1 ∧ s.get [false] = .slice b2 0 n v2 ∧ s.get [false, true] = G i ∧ h' = ⟨h.get, h.size, []⟩) .normal (fun s h' => s.get [] = .slice b1 0 n v1 ∧ s.get [false] = .slice b2 0 n v2 ∧ s.get [false, true] = G ((i + 1 : Nat) : Int) ∧ h' = ⟨h.get, h.size, []⟩) := Tr.region fun s h hp => by
        obtain ⟨g0, g1, g2, rfl⟩ := hp
        simp (disch := first|omega|exact zE rfl|exact zO|exact zL rfl) [c24_b0, c24_o4, c24_o5, c24_o7, size_mk, get_mk_lt, get_mk_ge, frameOf, Eff.app, Heap.setOwn, g0, g1, g2, ha, hb, xa, xb]
      exact ⟨fun e => Tr.next t (ih'.1 (by simpa using e)), fun e => Tr.next t (ih'.2 (by simpa using e))⟩
    · refine ⟨fun e => absurd (List.cons.inj e).1 hpq, fun _ => ?_⟩
      have t : Tr tbl J ((.trim [[], [false], [false, true]] c24_b0)) (fun s h' => s.get [] = .slice b1 0 n v1 ∧ s.get [false] = .slice b2 0 n v2 ∧ s.get [false, true] = G i ∧ h' = ⟨h.get, h.size, []⟩) .ret (fun s h => s.get [true, false] = .bool false) := Tr.region fun s h hp => by
        obtain ⟨g0, g1, g2, rfl⟩ := hp
        simp (disch := first|omega|exact zE rfl|exact zO|exact zL rfl) [c24_b0, c24_o4, c24_o5, c24_o6, size_mk, get_mk_lt, get_mk_ge, frameOf, Eff.app, Heap.setOwn, g0, g1, g2, ha, hb, xa, xb, hpq]
      exact Tr.out t (by simp)
theorem ints_nn (J : CallF) (hJ : ∀ a h, J 24 a h = none) (h : Heap)  : CallsTo tbl J 24 [.nils, .nils] h (.bool (decide (([] : List Int) = [])), [], false) := by
  refine Tr.fnv (cf := c24) (e := .ret) (s := T.set (T.set .leaf [] (.nils)) [false] (.nils)) (by decide) rfl (hJ _ _) rfl rfl rfl (by simp) ?_
  have t0 : Tr tbl J (c24_o0) (fun s h' => s = T.set (T.set .leaf [] (.nils)) [false] (.nils) ∧ h' = frameOf h) .normal (fun s h' => s.get [] = .nils ∧ s.get [false] = .nils ∧ h' = ⟨h.get, h.size, []⟩) := Tr.region fun s h hp => by
    obtain ⟨rfl, rfl⟩ := hp
    simp (disch := first|omega|exact zE rfl|exact zO|exact zL rfl) [c24_o0, frameOf, Heap.size, Heap.get, Eff.app, Heap.setOwn]
  by_cases hab : (0) = 0
  ·
    have t1 : Tr tbl J ((.seq c24_o1 (.cond (.s [true, true, false]) (.seq c24_o2 .ret) .skip))) (fun s h' => s.get [] = .nils ∧ s.get [false] = .nils ∧ h' = ⟨h.get, h.size, []⟩) .normal (fun s h' => s.get [] = .nils ∧ s.get [false] = .nils ∧ h' = ⟨h.get, h.size, []⟩) := Tr.region fun s h hp => by
      obtain ⟨g0, g1, rfl⟩ := hp
      simp (disch := first|omega|exact zE rfl|exact zO|exact zL rfl) [c24_o1, size_mk, get_mk_lt, get_mk_ge, frameOf, Eff.app, Heap.setOwn, g0, g1, hab]
    have t2 : Tr tbl J (c24_o3) (fun s h' => s.get [] = .nils ∧ s.get [false] = .nils ∧ h' = ⟨h.get, h.size, []⟩) .normal (fun s h' => s.get [] = .nils ∧ s.get [false] = .nils ∧ s.get [false, true] = G ((0 : Nat) : Int) ∧ h' = ⟨h.get, h.size, []⟩) := Tr.region fun s h hp => by
      obtain ⟨g0, g1, rfl⟩ := hp
      simp (disch := first|omega|exact zE rfl|exact zO|exact zL rfl) [c24_o3, size_mk, get_mk_lt, get_mk_ge, frameOf, Eff.app, Heap.setOwn, g0, g1]
    have t3 : Tr tbl J ((.seq c24_o8 .ret)) (fun s h => True) .ret (fun s h => s.get [true, false] = .bool true) := Tr.region fun s h hp => by
      simp (disch := first|omega|exact zE rfl|exact zO|exact zL rfl) [c24_o8, frameOf, Heap.size, Heap.get, Eff.app, Heap.setOwn]
    have t4 : Tr tbl J ((.trim [[], [false], [false, true]] c24_b0)) (fun s h' => s.get [] = .nils ∧ s.get [false] = .nils ∧ s.get [false, true] = G ((0 : Nat) : Int) ∧ h' = ⟨h.get, h.size, []⟩) (.exit 0) (fun s h => True) := Tr.region fun s h hp => by
      obtain ⟨g0, g1, g2, rfl⟩ := hp
      simp (disch := first|omega|exact zE rfl|exact zO|exact zL rfl) [c24_b0, c24_o4, size_mk, get_mk_lt, get_mk_ge, frameOf, Eff.app, Heap.setOwn, g0, g1, g2, hab]
    exact Tr.post (fun s h q => by simp [c24, q]) (Tr.seq t0 (Tr.seq t1 (Tr.seq (Tr.seq t2 (Tr.block (Tr.out t4 (by simp)))) t3)))
  · exact absurd rfl hab
theorem ints_ns (J : CallF) (hJ : ∀ a h, J 24 a h = none) (h : Heap)  : CallsTo tbl J 24 [.nils, .slice b2 0 b.length v2] h (.bool (decide (([] : List Int) = b)), [], false) := by
  refine Tr.fnv (cf := c24) (e := .ret) (s := T.set (T.set .leaf [] (.nils)) [false] (.slice b2 0 b.length v2)) (by decide) rfl (hJ _ _) rfl rfl rfl (by simp) ?_
  have t0 : Tr tbl J (c24_o0) (fun s h' => s = T.set (T.set .leaf [] (.nils)) [false] (.slice b2 0 b.length v2) ∧ h' = frameOf h) .normal (fun s h' => s.get [] = .nils ∧ s.get [false] = .slice b2 0 b.length v2 ∧ h' = ⟨h.get, h.size, []⟩) := Tr.region fun s h hp => by
    obtain ⟨rfl, rfl⟩ := hp
    simp (disch := first|omega|exact zE rfl|exact zO|exact zL rfl) [c24_o0, frameOf, Heap.size, Heap.get, Eff.app, Heap.setOwn]
  by_cases hab : (0) = b.length
  ·
    have t1 : Tr tbl J ((.seq c24_o1 (.cond (.s [true, true, false]) (.seq c24_o2 .ret) .skip))) (fun s h' => s.get [] = .nils ∧ s.get [false] = .slice b2 0 b.length v2 ∧ h' = ⟨h.get, h.size, []⟩) .normal (fun s h' => s.get [] = .nils ∧ s.get [false] = .slice b2 0 b.length v2 ∧ h' = ⟨h.get, h.size, []⟩) := Tr.region fun s h hp => by
      obtain ⟨g0, g1, rfl⟩ := hp
      simp (disch := first|omega|exact zE rfl|exact zO|exact zL rfl) [c24_o1, size_mk, get_mk_lt, get_mk_ge, frameOf, Eff.app, Heap.setOwn, g0, g1, hab]
    have t2 : Tr tbl J (c24_o3) (fun s h' => s.get [] = .nils ∧ s.get [false] = .slice b2 0 b.length v2 ∧ h' = ⟨h.get, h.size, []⟩) .normal (fun s h' => s.get [] = .nils ∧ s.get [false] = .slice b2 0 b.length v2 ∧ s.get [false, true] = G ((0 : Nat) : Int) ∧ h' = ⟨h.get, h.size, []⟩) := Tr.region fun s h hp => by
      obtain ⟨g0, g1, rfl⟩ := hp
      simp (disch := first|omega|exact zE rfl|exact zO|exact zL rfl) [c24_o3, size_mk, get_mk_lt, get_mk_ge, frameOf, Eff.app, Heap.setOwn, g0, g1]
    have t3 : Tr tbl J ((.seq c24_o8 .ret)) (fun s h => True) .ret (fun s h => s.get [true, false] = .bool true) := Tr.region fun s h hp => by
      simp (disch := first|omega|exact zE rfl|exact zO|exact zL rfl) [c24_o8, frameOf, Heap.size, Heap.get, Eff.app, Heap.setOwn]
    have t4 : Tr tbl J ((.trim [[], [false], [false, true]] c24_b0)) (fun s h' => s.get [] = .nils ∧ s.get [false] = .slice b2 0 b.length v2 ∧ s.get [false, true] = G ((0 : Nat) : Int) ∧ h' = ⟨h.get, h.size, []⟩) (.exit 0) (fun s h => True) := Tr.region fun s h hp => by
      obtain ⟨g0, g1, g2, rfl⟩ := hp
      simp (disch := first|omega|exact zE rfl|exact zO|exact zL rfl) [c24_b0, c24_o4, size_mk, get_mk_lt, get_mk_ge, frameOf, Eff.app, Heap.setOwn, g0, g1, g2, hab]
    have e1 : b = [] := List.length_eq_zero_iff.1 hab.symm
    exact Tr.post (fun s h q => by simp [c24, q, e1]) (Tr.seq t0 (Tr.seq t1 (Tr.seq (Tr.seq t2 (Tr.block (Tr.out t4 (by simp)))) t3)))
  ·
    have t1 : Tr tbl J ((.seq c24_o1 (.cond (.s [true, true, false]) (.seq c24_o2 .ret) .skip))) (fun s h' => s.get [] = .nils ∧ s.get [false] = .slice b2 0 b.length v2 ∧ h' = ⟨h.get, h.size, []⟩) .ret (fun s h => s.get [true, false] = .bool false) := Tr.region fun s h hp => by
      obtain ⟨g0, g1, rfl⟩ := hp
      simp (disch := first|omega|exact zE rfl|exact zO|exact zL rfl) [c24_o1, c24_o2, size_mk, get_mk_lt, get_mk_ge, frameOf, Eff.app, Heap.setOwn, g0, g1, hab]
    refine Tr.post (fun s h q => ?_) (Tr.seq t0 (Tr.seq_out t1 (by simp)))
    have hne : ¬ b = [] := fun e => hab (by rw [e]; rfl)
    simp [c24, q, hne]
theorem ints_sn (J : CallF) (hJ : ∀ a h, J 24 a h = none) (h : Heap)  : CallsTo tbl J 24 [.slice b1 0 a.length v1, .nils] h (.bool (decide (a = [])), [], false) := by
  refine Tr.fnv (cf := c24) (e := .ret) (s := T.set (T.set .leaf [] (.slice b1 0 a.length v1)) [false] (.nils)) (by decide) rfl (hJ _ _) rfl rfl rfl (by simp) ?_
  have t0 : Tr tbl J (c24_o0) (fun s h' => s = T.set (T.set .leaf [] (.slice b1 0 a.length v1)) [false] (.nils) ∧ h' = frameOf h) .normal (fun s h' => s.get [] = .slice b1 0 a.length v1 ∧ s.get [false] = .nils ∧ h' = ⟨h.get, h.size, []⟩) := Tr.region fun s h hp => by
    obtain ⟨rfl, rfl⟩ := hp
    simp (disch := first|omega|exact zE rfl|exact zO|exact zL rfl) [c24_o0, frameOf, Heap.size, Heap.get, Eff.app, Heap.setOwn]
  by_cases hab : (a.length) = 0
  ·
    have t1 : Tr tbl J ((.seq c24_o1 (.cond (.s [true, true, false]) (.seq c24_o2 .ret) .skip))) (fun s h' => s.get [] = .slice b1 0 a.length v1 ∧ s.get [false] = .nils ∧ h' = ⟨h.get, h.size, []⟩) .normal (fun s h' => s.get [] = .slice b1 0 a.length v1 ∧ s.get [false] = .nils ∧ h' = ⟨h.get, h.size, []⟩) := Tr.region fun s h hp => by
      obtain ⟨g0, g1, rfl⟩ := hp
      simp (disch := first|omega|exact zE rfl|exact zO|exact zL rfl) [c24_o1, size_mk, get_mk_lt, get_mk_ge, frameOf, Eff.app, Heap.setOwn, g0, g1, hab]
    have t2 : Tr tbl J (c24_o3) (fun s h' => s.get [] = .slice b1 0 a.length v1 ∧ s.get [false] = .nils ∧ h' = ⟨h.get, h.size, []⟩) .normal (fun s h' => s.get [] = .slice b1 0 a.length v1 ∧ s.get [false] = .nils ∧ s.get [false, true] = G ((0 : Nat) : Int) ∧ h' = ⟨h.get, h.size, []⟩) := Tr.region fun s h hp => by
      obtain ⟨g0, g1, rfl⟩ := hp
      simp (disch := first|omega|exact zE rfl|exact zO|exact zL rfl) [c24_o3, size_mk, get_mk_lt, get_mk_ge, frameOf, Eff.app, Heap.setOwn, g0, g1]
    have t3 : Tr tbl J ((.seq c24_o8 .ret)) (fun s h => True) .ret (fun s h => s.get [true, false] = .bool true) := Tr.region fun s h hp => by
      simp (disch := first|omega|exact zE rfl|exact zO|exact zL rfl) [c24_o8, frameOf, Heap.size, Heap.get, Eff.app, Heap.setOwn]
    have t4 : Tr tbl J ((.trim [[], [false], [false, true]] c24_b0)) (fun s h' => s.get [] = .slice b1 0 a.length v1 ∧ s.get [false] = .nils ∧ s.get [false, true] = G ((0 : Nat) : Int) ∧ h' = ⟨h.get, h.size, []⟩) (.exit 0) (fun s h => True) := Tr.region fun s h hp => by
      obtain ⟨g0, g1, g2, rfl⟩ := hp
      simp (disch := first|omega|exact zE rfl|exact zO|exact zL rfl) [c24_b0, c24_o4, size_mk, get_mk_lt, get_mk_ge, frameOf, Eff.app, Heap.setOwn, g0, g1, g2, hab]
    have e1 : a = [] := List.length_eq_zero_iff.1 hab
    exact Tr.post (fun s h q => by simp [c24, q, e1]) (Tr.seq t0 (Tr.seq t1 (Tr.seq (Tr.seq t2 (Tr.block (Tr.out t4 (by simp)))) t3)))
  ·
    have t1 : Tr tbl J ((.seq c24_o1 (.cond (.s [true, true, false]) (.seq c24_o2 .ret) .skip))) (fun s h' => s.get [] = .slice b1 0 a.length v1 ∧ s.get [false] = .nils ∧ h' = ⟨h.get, h.size, []⟩) .ret (fun s h => s.get [true, false] = .bool false) := Tr.region fun s h hp => by
      obtain ⟨g0, g1, rfl⟩ := hp
      simp (disch := first|omega|exact zE rfl|exact zO|exact zL rfl) [c24_o1, c24_o2, size_mk, get_mk_lt, get_mk_ge, frameOf, Eff.app, Heap.setOwn, g0, g1, hab]
    refine Tr.post (fun s h q => ?_) (Tr.seq t0 (Tr.seq_out t1 (by simp)))
    have hne : ¬ a = [] := fun e => hab (by rw [e]; rfl)
    simp [c24, q, hne]
theorem ints_ss (J : CallF) (hJ : ∀ a h, J 24 a h = none) (h : Heap) (hn : a.length ≤ 1000000) {ca cb : List AV} (ha : h.get b1 = .cells 1 v1 ca) (hb : h.get b2 = .cells 1 v2 cb) (hca : ∀ i : Nat, ca[i]? = (a[i]?).map fun n => AV.int .i64 n) (hcb : ∀ i : Nat, cb[i]? = (b[i]?).map fun n => AV.int .i64 n) : CallsTo tbl J 24 [.slice b1 0 a.length v1, .slice b2 0 b.length v2] h (.bool (decide (a = b)), [], false) := by
  refine Tr.fnv (cf := c24) (e := .ret) (s := T.set (T.set .leaf [] (.slice b1 0 a.length v1)) [false] (.slice b2 0 b.length v2)) (by decide) rfl (hJ _ _) rfl rfl rfl (by simp) ?_
  have t0 : Tr tbl J (c24_o0) (fun s h' => s = T.set (T.set .leaf [] (.slice b1 0 a.length v1)) [false] (.slice b2 0 b.length v2) ∧ h' = frameOf h) .normal (fun s h' => s.get [] = .slice b1 0 a.length v1 ∧ s.get [false] = .slice b2 0 b.length v2 ∧ h' = ⟨h.get, h.size, []⟩) := Tr.region fun s h hp => by
    obtain ⟨rfl, rfl⟩ := hp
    simp (disch := first|omega|exact zE rfl|exact zO|exact zL rfl) [c24_o0, frameOf, Heap.size, Heap.get, Eff.app, Heap.setOwn]
  by_cases hab : (a.length) = b.length
  ·
    have t1 : Tr tbl J ((.seq c24_o1 (.cond (.s [true, true, false]) (.seq c24_o2 .ret) .skip))) (fun s h' => s.get [] = .slice b1 0 a.length v1 ∧ s.get [false] = .slice b2 0 b.length v2 ∧ h' = ⟨h.get, h.size, []⟩) .normal (fun s h' => s.get [] = .slice b1 0 a.length v1 ∧ s.get [false] = .slice b2 0 b.length v2 ∧ h' = ⟨h.get, h.size, []⟩) := Tr.region fun s h hp => by
      obtain ⟨g0, g1, rfl⟩ := hp
      simp (disch := first|omega|exact zE rfl|exact zO|exact zL rfl) [c24_o1, size_mk, get_mk_lt, get_mk_ge, frameOf, Eff.app, Heap.setOwn, g0, g1, hab]
    have t2 : Tr tbl J (c24_o3) (fun s h' => s.get [] = .slice b1 0 a.length v1 ∧ s.get [false] = .slice b2 0 b.length v2 ∧ h' = ⟨h.get, h.size, []⟩) .normal (fun s h' => s.get [] = .slice b1 0 a.length v1 ∧ s.get [false] = .slice b2 0 b.length v2 ∧ s.get [false, true] = G ((0 : Nat) : Int) ∧ h' = ⟨h.get, h.size, []⟩) := Tr.region fun s h hp => by
      obtain ⟨g0, g1, rfl⟩ := hp
      simp (disch := first|omega|exact zE rfl|exact zO|exact zL rfl) [c24_o3, size_mk, get_mk_lt, get_mk_ge, frameOf, Eff.app, Heap.setOwn, g0, g1]
    have t3 : Tr tbl J ((.seq c24_o8 .ret)) (fun s h => True) .ret (fun s h => s.get [true, false] = .bool true) := Tr.region fun s h hp => by
      simp (disch := first|omega|exact zE rfl|exact zO|exact zL rfl) [c24_o8, frameOf, Heap.size, Heap.get, Eff.app, Heap.setOwn]
    obtain ⟨l1, l2⟩ := ints_loop J h ha hb hca hcb rfl hab.symm hn a.length 0 (by omega)
    simp only [List.drop_zero] at l1 l2
    rw [← hab] at t0 t1 t2
    by_cases e : a = b
    · rw [decide_eq_true e]
      exact Tr.post (fun s h q => by simp [c24, q]) (Tr.seq (by rw [← hab]; exact t0) (Tr.seq t1 (Tr.seq (Tr.seq t2 (Tr.block (l1 e))) t3)))
    · rw [decide_eq_false e]
      exact Tr.post (fun s h q => by simp [c24, q]) (Tr.seq (by rw [← hab]; exact t0) (Tr.seq t1 (Tr.seq_out (Tr.seq t2 (Tr.block_out (l2 e) (by simp))) (by simp))))
  ·
    have t1 : Tr tbl J ((.seq c24_o1 (.cond (.s [true, true, false]) (.seq c24_o2 .ret) .skip))) (fun s h' => s.get [] = .slice b1 0 a.length v1 ∧ s.get [false] = .slice b2 0 b.length v2 ∧ h' = ⟨h.get, h.size, []⟩) .ret (fun s h => s.get [true, false] = .bool false) := Tr.region fun s h hp => by
      obtain ⟨g0, g1, rfl⟩ := hp
      simp (disch := first|omega|exact zE rfl|exact zO|exact zL rfl) [c24_o1, c24_o2, size_mk, get_mk_lt, get_mk_ge, frameOf, Eff.app, Heap.setOwn, g0, g1, hab]
    refine Tr.post (fun s h q => ?_) (Tr.seq t0 (Tr.seq_out t1 (by simp)))
    have hne : ¬ a = b := fun e => hab (by rw [e])
    simp [c24, q, hne]
theorem c24_ok (J : CallF) (hJ : ∀ a h, J 24 a h = none) (h : Heap) (x y : AV) (hx : listOf h x = some a) (hy : listOf h y = some b) (hn : a.length ≤ 1000000) : CallsTo tbl J 24 [x, y] h (.bool (decide (a = b)), [], false) := by
  rcases listOf_some hx with ⟨rfl, rfl⟩ | ⟨b1, v1, rfl, g1⟩ <;> rcases listOf_some hy with ⟨rfl, rfl⟩ | ⟨b2, v2, rfl, g2⟩
  · exact ints_nn J hJ h
  · exact ints_ns J hJ h
  · exact ints_sn J hJ h
  · exact ints_ss J hJ h hn g1 g2 (fun i => List.getElem?_map) (fun i => List.getElem?_map)
end
def spec24 : SpecF := fun args h => match args with
  | [x, y] => match listOf h x, listOf h y with
    | some a, some b => if a.length ≤ 1000000 then some (.bool (decide (a = b)), [], false) else none
    | _, _ => none
  | _ => none
theorem c18_nil (J : CallF) (hJ : ∀ a h, J 18 a h = none) (h : Heap) {x : AV} (hx : x = .nils ∨ x = .slice0) : CallsTo tbl J 18 [x] h (.nils, [], false) := by
  refine Tr.fnv (cf := c18) (e := .ret) (s := T.set .leaf [] x) (by decide) rfl (hJ _ _) rfl rfl rfl (by simp) ?_
  refine Tr.post (Q := (fun s h => s.get [true] = .nils)) (fun s h q => by simp [c18, q]) ?_
  have t : Tr tbl J ((.seq c18_o0 (.seq c18_o1 (.seq c18_o2 .ret)))) (fun s h' => s = T.set .leaf [] x ∧ h' = frameOf h) .ret (fun s h => s.get [true] = .nils) := Tr.region fun s h hp => by
    obtain ⟨rfl, rfl⟩ := hp
    rcases hx with rfl | rfl <;> simp (disch := first|omega|exact zE rfl|exact zO|exact zL rfl) [c18_o0, c18_o1, c18_o2, size_mk, get_mk_lt, get_mk_ge, frameOf, Eff.app, Heap.setOwn, slSlA, bounds, elems, rdOf, appA]
  exact t
theorem c18_nil2 (J : CallF) (hJ : ∀ a h, J 18 a h = none) (h : Heap) {b v : Nat} (hb : h.get b = .cells 1 v []) : CallsTo tbl J 18 [.slice b 0 0 v] h (.nils, [], false) := by
  have hlt := get_lt hb (by simp)
  refine Tr.fnv (cf := c18) (e := .ret) (s := T.set .leaf [] (.slice b 0 0 v)) (by decide) rfl (hJ _ _) rfl rfl rfl (by simp) ?_
  refine Tr.post (Q := (fun s h => s.get [true] = .nils)) (fun s h q => by simp [c18, q]) ?_
  have t : Tr tbl J ((.seq c18_o0 (.seq c18_o1 (.seq c18_o2 .ret)))) (fun s h' => s = T.set .leaf [] (.slice b 0 0 v) ∧ h' = frameOf h) .ret (fun s h => s.get [true] = .nils) := Tr.region fun s h hp => by
    obtain ⟨rfl, rfl⟩ := hp
    simp (disch := first|omega|exact zE rfl|exact zO|exact zL rfl) [c18_o0, c18_o1, c18_o2, frameOf, size_mk, get_mk_lt, get_mk_ge, frameOf, Eff.app, Heap.setOwn, slSlA, bounds, elems, rdOf, appA, hb]
  exact t
theorem c18_ok (J : CallF) (hJ : ∀ a h, J 18 a h = none) (h : Heap) {b v : Nat} {A : List Int} (hb : h.get b = .cells 1 v (gs A)) (hA : A ≠ []) :
    CallsTo tbl J 18 [.slice b 0 A.length v] h (.slice h.size 0 (A.take 10).length (A.take 10).length, [.cells 1 (A.take 10).length (gs (A.take 10))], false) := by
  have hlt := get_lt hb (by simp)
  have hl : (A.take 10).length = min 10 A.length := List.length_take
  have hp : 0 < A.length := List.length_pos_iff.2 hA
  obtain ⟨m, hm⟩ : ∃ m, (A.take 10).length = m := ⟨_, rfl⟩
  rw [hm] at hl ⊢
  have e1 : (gs A).take m = gs (A.take 10) := by
    rw [← List.map_take]
    congr 1
    by_cases hA : A.length ≤ 10
    · rw [List.take_of_length_le (by omega), List.take_of_length_le hA]
    · rw [show m = 10 by omega]
  have e2 : (gs (A.take 10)).length = m := by simp; omega
  obtain ⟨L, hL⟩ : ∃ L, A.length = L := ⟨_, rfl⟩
  rw [hL] at hl hp ⊢
  have e3 : (if (10 : Int) < (L : Int) then (10 : Int) else (L : Int)) = m := by split <;> omega
  have e4 : ¬ (0 = L ∧ 0 < L) := by omega
  generalize gs (A.take 10) = cs at *
  generalize gs A = ca at *
  refine Tr.fnh (cf := c18) (e := .ret) (s := T.set .leaf [] (.slice b 0 L v)) (by decide) rfl (hJ _ _) rfl rfl rfl (by simp) ?_
  refine Tr.post (Q := (fun s h' => s.get [true] = .slice h.size 0 m m ∧ h' = ⟨h.get, h.size, [.cells 1 m cs]⟩)) (fun s h' q => by
    obtain ⟨q1, rfl⟩ := q
    simp [c18, q1]) ?_
  have t : Tr tbl J ((.seq c18_o0 (.seq c18_o1 (.seq c18_o2 .ret)))) (fun s h' => s = T.set .leaf [] (.slice b 0 L v) ∧ h' = frameOf h) .ret (fun s h' => s.get [true] = .slice h.size 0 m m ∧ h' = ⟨h.get, h.size, [.cells 1 m cs]⟩) := Tr.region fun s h hp => by
    obtain ⟨rfl, rfl⟩ := hp
    simp (disch := first|omega|exact zE rfl|exact zO|exact zL rfl) [c18_o0, c18_o1, c18_o2, frameOf, size_mk, get_mk_lt, get_mk_ge, frameOf, Eff.app, Heap.setOwn, slSlA, bounds, elems, rdOf, appA, hb, e1, e2, e3, e4]
  exact t
def spec18 : SpecF := fun args h => match args with
  | [.nils] => some (.nils, [], false)
  | [.slice0] => some (.nils, [], false)
  | [.slice b o len v] => match listOf h (.slice b o len v) with
    | some A => if A = [] then some (.nils, [], false) else some (.slice h.size 0 (A.take 10).length (A.take 10).length, [.cells 1 (A.take 10).length (gs (A.take 10))], false)
    | none => none
  | _ => none
theorem spec18_ok (J : CallF) (hJ : ∀ a h, J 18 a h = none) (args : List AV) (h : Heap) (x : AV × List AObj × Bool) (e : spec18 args h = some x) : CallsTo tbl J 18 args h x := by
  unfold spec18 at e
  split at e
  · simp only [Option.some.injEq] at e; subst e; exact c18_nil J hJ h (.inl rfl)
  · simp only [Option.some.injEq] at e; subst e; exact c18_nil J hJ h (.inr rfl)
  · split at e
    · rename_i hl
      split at e
      · rename_i hA
        subst hA
        simp only [Option.some.injEq] at e; subst e
        rcases listOf_some hl with ⟨h1, _⟩ | ⟨b', v', h1, g⟩
        · cases h1
        · cases h1; exact c18_nil2 J hJ h g
      · rename_i hA
        simp only [Option.some.injEq] at e; subst e
        rcases listOf_some hl with ⟨h1, _⟩ | ⟨b', v', h1, g⟩
        · cases h1
        · cases h1; exact c18_ok J hJ h g hA
    · cases e
  · cases e
def blk : AV → Option Nat
  | .slice b _ _ _ => some b
  | _ => none
def R12 : CallF := addI (addI R11 24 spec24) 18 spec18
theorem s12 : Sound Go.Proofs.Try.prog R12 := Sound.add follows ok (Sound.add follows ok s11 (by decide) (fun args h x e => by
  unfold spec24 at e
  split at e
  · split at e
    · rename_i h1 h2
      split at e
      · rename_i hn
        simp only [Option.some.injEq] at e; subst e; exact c24_ok R11 (fun _ _ => rfl) h _ _ h1 h2 hn
      · cases e
    · cases e
  · cases e)) (by decide) (fun args h x e => spec18_ok _ (fun _ _ => rfl) args h x e)
def LV (h : Heap) (x : AV) (cs : List AV) : Prop := (x = .nils ∧ cs = []) ∨ ∃ b, x = .slice b 0 cs.length cs.length ∧ h.get b = .cells 1 cs.length cs ∧ h.N ≤ b
theorem LV.nil (h : Heap) : LV h .nils [] := .inl ⟨rfl, rfl⟩
theorem LV.kp {M : Nat → Prop} {h h' : Heap} {x : AV} {L : List AV} (l : LV h x L) (k : Kp M h h') (hm : ∀ b, blk x = some b → ¬ M b) : LV h' x L := by
  rcases l with l | ⟨b, rfl, g, n⟩
  · exact .inl l
  · exact .inr ⟨b, rfl, k.at g (by simp) (hm b rfl), by rw [k.N]; exact n⟩
theorem LV.lt {h : Heap} {x : AV} {L : List AV} (l : LV h x L) {b : Nat} (hb : blk x = some b) : b < h.size := by
  rcases l with ⟨rfl, rfl⟩ | ⟨b', rfl, g, n⟩
  · cases hb
  · cases hb; exact get_lt g (by simp)
theorem LV.sl {h : Heap} {x : AV} {L : List AV} (l : LV h x L) (hL : L ≠ []) : ∃ q, x = .slice q 0 L.length L.length ∧ h.get q = .cells 1 L.length L := by
  rcases l with ⟨rfl, rfl⟩ | ⟨b, rfl, g, n⟩
  · exact absurd rfl hL
  · exact ⟨b, rfl, g⟩
theorem ext_gen (h : Heap) (b v g : Nat) (cs vs : List AV) (h1 : h.N ≤ b) (hg : h.get b = .cells g v cs) (hl : cs.length = v) : Eff.app (.ext b v g vs) h = some (h.upd b (.cells g (v + vs.length) (cs ++ vs))) := by
  have h2 : ¬ b < h.N := by omega
  have e := get_own h1 hg (by simp)
  simp only [Eff.app, h2, if_false, e, hl, and_self, if_true, forceL_eq, setOwn_upd]
theorem app_v (h : Heap) (h0 bytes : Nat) {x0 : AV} {L : List AV} (z : AV) (hx : LV h x0 L) (hn : (L.length + 1) * bytes ≤ 1099511627776) :
    ∃ x1 e h', appA h h0 none 1 bytes 1 [z] x0 = some (x1, e) ∧ Eff.app e h = some h' ∧ LV h' x1 (L ++ [z]) ∧ Kp (fun b => blk x0 = some b) h h' ∧ (blk x1 = blk x0 ∨ (x0 = .nils ∧ blk x1 = some h.size)) ∧ AV.cells x1 = some [x1] := by
  rcases hx with ⟨rfl, rfl⟩ | ⟨b, rfl, g, hN⟩
  · refine ⟨.slice h.size 0 1 1, .grow [.cells 1 1 [z]], h.plus [.cells 1 1 [z]], ?_, app_growP _ _, .inr ⟨h.size, rfl, plus_at0 _ _ _ _ rfl, by show h.N ≤ h.size; unfold Heap.size; omega⟩, Kp.plus _ _, .inr ⟨rfl, rfl⟩, rfl⟩
    have : 1 * bytes ≤ 1099511627776 := by simpa using hn
    simp only [appA, mk, if_neg (show ¬ (1 = 0) by decide), if_pos this, Nat.mul_one]
  · have hlt := get_lt g (by simp)
    refine ⟨.slice b 0 (L.length + 1) (L.length + 1), .ext b L.length 1 [z], h.upd b (.cells 1 (L.length + 1) (L ++ [z])), ?_, ?_, .inr ⟨b, ?_, ?_, by rw [upd_N]; exact hN⟩, Kp.upd _ _ _ hN rfl, .inl rfl, rfl⟩
    · simp only [appA, Nat.mul_one, Nat.one_mul]
      rw [if_neg (by decide), if_pos ⟨trivial, by simp, hn⟩]
    · exact ext_gen h b L.length 1 L [z] hN g rfl
    · simp
    · rw [upd_same _ _ _ hN hlt]; simp
theorem app_if (h : Heap) (own : List AObj) : Eff.app (if own.isEmpty = true then .none else .grow own) h = some (h.plus own) := by
  cases own with
  | nil => simp [Heap.plus, app_noneP]
  | cons a r => exact app_growP _ _
theorem app_if' (h : Heap) (own : List AObj) [Decidable (own = [])] : Eff.app (if own = [] then .none else .grow own) h = some (h.plus own) := by
  cases own with
  | nil => simp [Heap.plus, app_noneP]
  | cons a r => rw [if_neg (by simp)]; exact app_growP _ _
def SL (y : AV) (n : Nat) : Prop := (y = .nils ∧ n = 0) ∨ (y = .slice0 ∧ n = 0) ∨ ∃ b v, y = .slice b 0 n v
theorem LR.sl {h : Heap} {x : AV} {l : List Int} (e : LR h x l) : SL x l.length := by
  rcases e.cases with ⟨rfl, rfl⟩ | ⟨rfl, rfl⟩ | ⟨b, v, rfl, g⟩
  · exact .inl ⟨rfl, rfl⟩
  · exact .inr (.inl ⟨rfl, rfl⟩)
  · exact .inr (.inr ⟨b, v, rfl⟩)
theorem LR.congr {h h' : Heap} (e : ∀ b, h.get b = h'.get b) {x : AV} {l : List Int} (q : LR h x l) : LR h' x l := by
  rcases q with q | q
  · exact .inl ((listOf_congr e x).symm.trans q)
  · exact .inr q
def MR (h : Heap) (y : AV) (M : List (List Int)) : Prop := ((y = .nils ∨ y = .slice0) ∧ M = []) ∨ ∃ b v cs, y = .slice b 0 M.length v ∧ h.get b = .cells 1 v cs ∧ cs.length = M.length ∧ ∀ (i : Nat) r, cs[i]? = some r → ∃ l, M[i]? = some l ∧ LR h r l
theorem MR.sl {h : Heap} {y : AV} {M : List (List Int)} (m : MR h y M) : SL y M.length := by
  rcases m with ⟨rfl | rfl, rfl⟩ | ⟨b, v, cs, rfl, _⟩
  · exact .inl ⟨rfl, rfl⟩
  · exact .inr (.inl ⟨rfl, rfl⟩)
  · exact .inr (.inr ⟨b, v, rfl⟩)
theorem MR.kp {h h' : Heap} {y : AV} {M : List (List Int)} (m : MR h y M) (k : Kp (fun _ => False) h h') : MR h' y M := by
  rcases m with m | ⟨b, v, cs, rfl, g, hl, hr⟩
  · exact .inl m
  · refine .inr ⟨b, v, cs, rfl, k.at g (by simp) id, hl, fun i r e => ?_⟩
    obtain ⟨l, h1, h2⟩ := hr i r e
    exact ⟨l, h1, LR.kp k h2⟩
theorem MR.congr {h h' : Heap} (e : ∀ b, h.get b = h'.get b) {y : AV} {M : List (List Int)} (m : MR h y M) : MR h' y M := by
  rcases m with m | ⟨b, v, cs, rfl, g, hl, hr⟩
  · exact .inl m
  · refine .inr ⟨b, v, cs, rfl, (e b).symm.trans g, hl, fun i r q => ?_⟩
    obtain ⟨l, h1, h2⟩ := hr i r q
    exact ⟨l, h1, LR.congr e h2⟩
theorem LR.lt {h : Heap} {x : AV} {l : List Int} (e : LR h x l) {q : Nat} (hq : blk x = some q) : q < h.size := by
  rcases e.cases with ⟨rfl, rfl⟩ | ⟨rfl, rfl⟩ | ⟨b, v, rfl, g⟩
  · cases hq
  · cases hq
  · cases hq; exact get_lt g (by simp)
theorem MR.lo {h : Heap} {y : AV} {M : List (List Int)} (m : MR h y M) (own : List AObj) : MR ⟨h.get, h.size, own⟩ y M :=
  (m.kp (Kp.plus h own)).congr fun b => (fr_get h own b).symm
theorem MR.row {h : Heap} {y : AV} {M : List (List Int)} (m : MR h y M) {i : Nat} (hi : i < M.length) : ∃ b v cs r, y = .slice b 0 M.length v ∧ h.get b = .cells 1 v cs ∧ cs[i]? = some r ∧ LR h r (M.getD i []) := by
  rcases m with ⟨_, rfl⟩ | ⟨b, v, cs, rfl, g, hl, hr⟩
  · simp at hi
  · have e : cs[i]? = some cs[i] := List.getElem?_eq_getElem (by omega)
    obtain ⟨l, h1, h2⟩ := hr i _ e
    refine ⟨b, v, cs, _, rfl, g, e, ?_⟩
    rw [List.getD_eq_getElem?_getD, h1]; exact h2
theorem MR.inj {h : Heap} {y : AV} {M M' : List (List Int)} (m : MR h y M) (m' : MR h y M') : M = M' := by
  have hl : M.length = M'.length := by
    rcases m.sl with ⟨rfl, a⟩ | ⟨rfl, a⟩ | ⟨b, v, rfl⟩ <;> rcases m'.sl with ⟨h1, c⟩ | ⟨h1, c⟩ | ⟨b', v', h1⟩
    all_goals first | cases h1; done | omega | (simp only [AV.slice.injEq] at h1; omega)
  apply List.ext_getElem?
  intro i
  by_cases hi : i < M.length
  · obtain ⟨b, v, cs, r, rfl, g, e, q⟩ := m.row hi
    obtain ⟨b', v', cs', r', h1, g', e', q'⟩ := m'.row (by omega : i < M'.length)
    simp only [AV.slice.injEq] at h1
    obtain ⟨rfl, _, _, rfl⟩ := h1
    rw [g] at g'
    simp only [AObj.cells.injEq, true_and] at g'
    subst g'
    rw [e] at e'
    cases e'
    have := LR.inj q q'
    rw [List.getD_eq_getElem?_getD, List.getD_eq_getElem?_getD] at this
    rw [List.getElem?_eq_getElem hi, List.getElem?_eq_getElem (by omega : i < M'.length)] at this ⊢
    simpa using this
  · rw [List.getElem?_eq_none (by omega), List.getElem?_eq_none (by omega)]
structure TG (H0 h : Heap) (x : AV) (M : List (List Int)) : Prop where
  k : Kp (fun _ => False) H0 h
  x0 : ∀ q, blk x = some q → H0.size ≤ q
  r : ∃ cs, LV h x cs ∧ cs.length = M.length ∧ ∀ (i : Nat) r, cs[i]? = some r → ∃ l, M[i]? = some l ∧ listOf h r = some l ∧ ∀ q, blk r = some q → blk x ≠ some q ∧ H0.size ≤ q ∧ q < h.size
theorem TG.mr {H0 h : Heap} {x : AV} {M : List (List Int)} (t : TG H0 h x M) : MR h x M := by
  obtain ⟨cs, l, hl, hr⟩ := t.r
  rcases l with ⟨rfl, rfl⟩ | ⟨b, rfl, g, n⟩
  · exact .inl ⟨.inl rfl, List.length_eq_zero_iff.1 hl.symm⟩
  · refine .inr ⟨b, cs.length, cs, by rw [hl], g, hl, fun i r e => ?_⟩
    obtain ⟨l, h1, h2, _⟩ := hr i r e
    exact ⟨l, h1, .inl h2⟩
theorem TG.nil (H0 : Heap) : TG H0 H0 .nils [] := ⟨Kp.refl _, fun _ e => (by cases e), [], LV.nil _, rfl, fun i r e => by simp at e⟩
theorem listOf_kp {N : Nat → Prop} {h h' : Heap} (k : Kp N h h') {x : AV} {l : List Int} (e : listOf h x = some l) (hm : ∀ q, blk x = some q → ¬ N q) : listOf h' x = some l := by
  rcases listOf_some e with ⟨rfl, rfl⟩ | ⟨b, v, rfl, g⟩
  · rfl
  · exact listOf_cells (k.at g (by simp) (hm b rfl)) rfl
theorem listOf_lt {h : Heap} {x : AV} {l : List Int} (e : listOf h x = some l) {q : Nat} (hq : blk x = some q) : q < h.size := by
  rcases listOf_some e with ⟨rfl, rfl⟩ | ⟨b, v, rfl, g⟩
  · cases hq
  · cases hq; exact get_lt g (by simp)
theorem TG.kp {H0 h h' : Heap} {x : AV} {M : List (List Int)} (t : TG H0 h x M) (k : Kp (fun _ => False) h h') : TG H0 h' x M := by
  obtain ⟨cs, l, hl, hr⟩ := t.r
  refine ⟨t.k.trans k, t.x0, cs, l.kp k (fun _ _ => id), hl, fun i r e => ?_⟩
  obtain ⟨l, h1, h2, h3⟩ := hr i r e
  exact ⟨l, h1, listOf_kp k h2 (fun _ _ => id), fun q hq => ⟨(h3 q hq).1, (h3 q hq).2.1, Nat.lt_of_lt_of_le (h3 q hq).2.2 k.size⟩⟩
theorem TG.app {H0 h : Heap} (h0 : Nat) {x v : AV} {M : List (List Int)} {l : List Int} (t : TG H0 h x M) (hv : listOf h v = some l) (hb : ∀ q, blk v = some q → blk x ≠ some q ∧ H0.size ≤ q) (hn : M.length ≤ 1000000) :
    ∃ x1 e h2, appA (h.plus [.cells 1 1 [v]]) h0 none 1 24 1 [v] x = some (x1, e) ∧ Eff.app e (h.plus [.cells 1 1 [v]]) = some h2 ∧ TG H0 h2 x1 (M ++ [l]) ∧ AV.cells x1 = some [x1] := by
  obtain ⟨cs, lv, hl, hr⟩ := t.r
  have k1 : Kp (fun _ => False) h (h.plus [.cells 1 1 [v]]) := Kp.plus _ _
  obtain ⟨x1, e, h2, q1, q2, q3, q4, q5, q6⟩ := app_v (h.plus [.cells 1 1 [v]]) h0 24 v (lv.kp k1 (fun _ _ => id)) (by omega)
  have hsz : (h.plus [.cells 1 1 [v]]).size = h.size + 1 := by rw [plus_size]; rfl
  have hx1 : ∀ q, q < h.size → blk x ≠ some q → blk x1 ≠ some q := fun q hq hne hx1 => by
    rcases q5 with h' | ⟨_, h'⟩
    · rw [h'] at hx1; exact hne hx1
    · rw [h'] at hx1; cases hx1; omega
  have hsz2 := q4.size
  refine ⟨x1, e, h2, q1, q2, ⟨(t.k.trans k1).late q4 t.x0, fun q hq => ?_, cs ++ [v], q3, by simp [hl], fun i r hi => ?_⟩, q6⟩
  · rcases q5 with h' | ⟨_, h'⟩
    · rw [h'] at hq; exact t.x0 q hq
    · rw [h'] at hq; cases hq; have := t.k.size; omega
  · by_cases hi' : i < cs.length
    · rw [List.getElem?_append_left hi'] at hi
      obtain ⟨l', h1, h2', h3⟩ := hr i r hi
      refine ⟨l', by rw [List.getElem?_append_left (by omega)]; exact h1, listOf_kp q4 (listOf_kp k1 h2' (fun _ _ => id)) (fun q hq => (h3 q hq).1), fun q hq => ⟨hx1 q (h3 q hq).2.2 (h3 q hq).1, (h3 q hq).2.1, by have := (h3 q hq).2.2; omega⟩⟩
    · rw [List.getElem?_append_right (by omega)] at hi
      have hi0 : i - cs.length = 0 := by
        rcases Nat.eq_zero_or_pos (i - cs.length) with e | e
        · exact e
        · rw [List.getElem?_eq_none (by simp; omega)] at hi; cases hi
      rw [hi0] at hi
      simp only [List.getElem?_cons_zero, Option.some.injEq] at hi
      subst hi
      have hlt : ∀ q, blk v = some q → q < h.size := fun q hq => listOf_lt hv hq
      refine ⟨l, by rw [List.getElem?_append_right (by omega), ← hl, hi0]; rfl, listOf_kp q4 (listOf_kp k1 hv (fun _ _ => id)) (fun q hq => (hb q hq).1), fun q hq => ⟨hx1 q (hlt q hq) (hb q hq).1, (hb q hq).2, by have := hlt q hq; omega⟩⟩
theorem Kp.fr {h h' : Heap} (k : Kp (fun _ => False) (frameOf h) h') : h' = ⟨h.get, h.size, h'.own⟩ := Kp.own k
theorem TG.fr {h h' : Heap} {x : AV} {M : List (List Int)} (t : TG (frameOf h) h' x M) : TG h (h.plus h'.own) x M := by
  have e := Kp.own t.k
  obtain ⟨cs, l, hl, hr⟩ := t.r
  have hg : ∀ b, h'.get b = (h.plus h'.own).get b := fun b => by rw [e]; exact fr_get h _ b
  refine ⟨Kp.plus _ _, t.x0, cs, ?_, hl, fun i r hi => ?_⟩
  · rcases l with l | ⟨b, rfl, g, n⟩
    · exact .inl l
    · have hb : h.size ≤ b := t.x0 b rfl
      exact .inr ⟨b, rfl, (hg b).symm.trans g, by rw [plus_N]; unfold Heap.size at hb; omega⟩
  · obtain ⟨l, h1, h2, h3⟩ := hr i r hi
    refine ⟨l, h1, (listOf_congr hg r).symm.trans h2, fun q hq => ⟨(h3 q hq).1, (h3 q hq).2.1, ?_⟩⟩
    have := (h3 q hq).2.2
    rw [e] at this
    rw [plus_size]; exact this
def cutM (M : List (List Int)) : List (List Int) := (M.take 9).map (·.take 10)
section
variable {M : List (List Int)} {y : AV}
theorem Tr.fix {tbl : Nat → Option CFunc} {I : CallF} {c : CCode} {e : AExit} {P Q : SP} {F : Heap → Prop} {P' : Heap → SP} (k : ∀ H, F H → Tr tbl I c (P' H) e Q) (hP : ∀ s h, P s h → F h ∧ P' h s h) : Tr tbl I c P e Q :=
  fun s h hp => k h (hP s h hp).1 s h (hP s h hp).2
theorem Tr.exx {tbl : Nat → Option CFunc} {I : CallF} {c : CCode} {e : AExit} {α : Type} {P : α → SP} {Q : SP} (k : ∀ a, Tr tbl I c (P a) e Q) : Tr tbl I c (fun s h => ∃ a, P a s h) e Q :=
  fun s h ⟨a, hp⟩ => k a s h hp
end
def Good17 (args : List AV) (h : Heap) (v : AV) (own : List AObj) : Prop := ∀ y M, args = [y] → MR h y M → TG h (h.plus own) v (cutM M)
noncomputable def R13 : CallF := addX tbl R12 17 Good17
theorem s13 : Sound Go.Proofs.Try.prog R13 := Sound.addX follows ok s12 (by decide) Good17
def ent (M : List (List Int)) (i j : Nat) : Int := (M.getD i []).getD j 0
def rowOk (n : Nat) (l : List Int) : Bool := decide (l.length = n) && allIn 0 9 l
def isMat (M : List (List Int)) : Bool := decide (1 ≤ M.length ∧ M.length ≤ 8) && M.all (rowOk M.length)
def sq (a : Nat → Int) : List AV := (List.range 64).map fun x => G (a x)
theorem sq_len (a : Nat → Int) : (sq a).length = 64 := by simp [sq]
theorem sq_at (a : Nat → Int) {x : Nat} (h : x < 64) : (sq a)[x]? = some (G (a x)) := by simp [sq, h]
theorem sq_ext (a b : Nat → Int) (h : ∀ x, x < 64 → a x = b x) : sq a = sq b := by
  unfold sq; apply List.map_congr_left; intro x hx; rw [h x (by simpa using hx)]
theorem sq_flat (a : Nat → Int) : AV.flats (sq a) = true := by
  unfold sq
  induction List.range 64 with
  | nil => rfl
  | cons x xs ih => simp only [List.map_cons, AV.flats, AV.flat, ih, Bool.true_and]
theorem sq_set (a : Nat → Int) (i : Nat) (b : Int) (h : i < 64) : (sq a).set i (G b) = sq (fun x => if x = i then b else a x) := by
  apply List.ext_getElem?
  intro x
  by_cases hx : x < 64
  · rw [sq_at _ hx]
    by_cases e : x = i
    · subst e; rw [List.getElem?_set_self (by rw [sq_len]; exact h), if_pos rfl]
    · rw [List.getElem?_set_ne (fun e' => e e'.symm), sq_at _ hx, if_neg e]
  · rw [List.getElem?_eq_none (by simp [sq_len]; omega), List.getElem?_eq_none (by simp [sq_len]; omega)]
theorem sq_rep : List.replicate 64 (AV.int .i64 0) = sq (fun _ => 0) := by
  apply List.ext_getElem?
  intro x
  by_cases hx : x < 64
  · rw [sq_at _ hx, List.getElem?_replicate, if_pos hx]
  · rw [List.getElem?_eq_none (by simp; omega), List.getElem?_eq_none (by simp [sq_len]; omega)]
def matC (M : List (List Int)) : List AV := G M.length :: sq (fun x => ent M (x / 8) (x % 8))
def cM (M : List (List Int)) (i : Nat) : List AV := G M.length :: sq (fun x => if x / 8 < i then ent M (x / 8) (x % 8) else 0)
theorem cM_len (M : List (List Int)) (i : Nat) : (cM M i).length = 65 := by simp [cM, sq_len]
theorem cM_all (M : List (List Int)) : cM M M.length = matC M := by
  unfold cM matC
  congr 1
  apply sq_ext
  intro x _
  split
  · rfl
  · unfold ent
    rw [List.getD_eq_getElem?_getD (l := M), List.getElem?_eq_none (by omega)]; rfl
theorem cM_0 (M : List (List Int)) : (List.replicate 65 (AV.int .i64 0)).set 0 (G M.length) = cM M 0 := by
  rw [show (65 : Nat) = 64 + 1 from rfl, List.replicate_succ, sq_rep]
  show G M.length :: _ = G M.length :: _
  congr 1
theorem cM_put (M : List (List Int)) {i : Nat} (hi : i < 8) {l : List Int} (hl : M.getD i [] = l) (h8 : l.length ≤ 8) : putAt (cM M i) (1 + i * 8) (gs l) = cM M (i + 1) := by
  apply List.ext_getElem?
  intro k
  rw [putAt_get _ _ _ _ (by rw [cM_len]; simp; omega)]
  cases k with
  | zero => rw [if_neg (by omega)]; rfl
  | succ x =>
    by_cases hx : x < 64
    · have e1 : (cM M i)[x + 1]? = some (G (if x / 8 < i then ent M (x / 8) (x % 8) else 0)) := by
        show (sq _)[x]? = _
        rw [sq_at _ hx]
      have e2 : (cM M (i + 1))[x + 1]? = some (G (if x / 8 < i + 1 then ent M (x / 8) (x % 8) else 0)) := by
        show (sq _)[x]? = _
        rw [sq_at _ hx]
      rw [e1, e2]
      have el : (gs l).length = l.length := by simp
      by_cases h1 : x / 8 < i
      · rw [if_neg (by omega), if_pos h1, if_pos (by omega)]
      · rw [if_neg h1]
        by_cases h2 : x / 8 = i
        · have en : ent M (x / 8) (x % 8) = l.getD (x % 8) 0 := by unfold ent; rw [h2, hl]
          rw [if_pos (show x / 8 < i + 1 by omega), en]
          by_cases h3 : x % 8 < l.length
          · rw [if_pos (by omega), show x + 1 - (1 + i * 8) = x % 8 by omega, List.getElem?_map, List.getD_eq_getElem?_getD, List.getElem?_eq_getElem h3]; rfl
          · rw [if_neg (by omega), List.getD_eq_getElem?_getD, List.getElem?_eq_none (by omega)]; rfl
        · rw [if_neg (by omega), if_neg (by omega)]
    · rw [if_neg (by simp; omega), List.getElem?_eq_none (by rw [cM_len]; omega), List.getElem?_eq_none (by rw [cM_len]; omega)]
section
variable {M : List (List Int)} {y : AV} {n : Nat}
abbrev L54 : List Path := [[true], [true, false], [false, false, false, false], [true, false, false, false], [false, true, false, false]]
theorem c54_good (J : CallF) (k55 : K55 J) (h : Heap) {cs Z C C1 : List AV} {b v i rb rv : Nat} {l : List Int} (g : h.get b = .cells 1 v cs) (er : cs[i]? = some (.slice rb 0 n rv)) (gr : h.get rb = .cells 1 rv (gs l)) (hi : i < n) (h8 : n ≤ 8) (hl : l.length = n) (hin : allIn 0 9 l = true) (hC : C.length = 65) (hn : C[0]? = some (G n)) (hp : putAt C (1 + i * 8) (gs l) = C1) :
    Tr tbl J (.trim L54 c54_b0) (fun s h' => s.get [true] = .ptr h.size 0 65 ∧ s.get [true, false] = .ptr (h.size + 1) 0 65 ∧ s.get [false, false, false, false] = .slice b 0 n v ∧ s.get [true, false, false, false] = G n ∧ s.get [false, true, false, false] = G i ∧ h' = ⟨h.get, h.size, [.cells 0 65 Z, .cells 0 65 C]⟩) .normal (fun s h' => s.get [true] = .ptr h.size 0 65 ∧ s.get [true, false] = .ptr (h.size + 1) 0 65 ∧ s.get [false, false, false, false] = .slice b 0 n v ∧ s.get [true, false, false, false] = G n ∧ s.get [false, true, false, false] = G ((i + 1 : Nat) : Int) ∧ h' = ⟨h.get, h.size, [.cells 0 65 Z, .cells 0 65 C1]⟩) := by
  have lr : LR h (.slice rb 0 n rv) l := .inl (listOf_cells gr hl)
  have k := k55 77 0 9 _ _ l rfl (LR.lo lr [.cells 0 65 Z, .cells 0 65 C]) (by omega)
  rw [hin] at k
  have er' : ∀ h : i < cs.length, cs[i] = .slice rb 0 n rv := fun h => by rw [List.getElem?_eq_getElem h] at er; exact Option.some.inj er
  have hn' : ∀ h : 0 < C.length, C[0] = G n := fun h => by rw [List.getElem?_eq_getElem h] at hn; exact Option.some.inj hn
  have b1 := get_lt g (by simp)
  have b2 := get_lt gr (by simp)
  have e1 : (gs l).length = n := by simp [hl]
  have hj : i * 8 + n ≤ 64 := by omega
  generalize gs l = cl at *
  have e2 : cl.take n = cl := List.take_of_length_le (by omega)
  have e3 : min n 8 = n := by omega
  have t : Tr tbl J ((.trim L54 c54_b0)) (fun s h' => s.get [true] = .ptr h.size 0 65 ∧ s.get [true, false] = .ptr (h.size + 1) 0 65 ∧ s.get [false, false, false, false] = .slice b 0 n v ∧ s.get [true, false, false, false] = G n ∧ s.get [false, true, false, false] = G i ∧ h' = ⟨h.get, h.size, [.cells 0 65 Z, .cells 0 65 C]⟩) .normal (fun s h' => s.get [true] = .ptr h.size 0 65 ∧ s.get [true, false] = .ptr (h.size + 1) 0 65 ∧ s.get [false, false, false, false] = .slice b 0 n v ∧ s.get [true, false, false, false] = G n ∧ s.get [false, true, false, false] = G ((i + 1 : Nat) : Int) ∧ h' = ⟨h.get, h.size, [.cells 0 65 Z, .cells 0 65 C1]⟩) := Tr.region fun s h hp => by
    obtain ⟨g0, g1, g2, g3, g4, rfl⟩ := hp
    simp (disch := first|omega|exact zE rfl|exact zO|exact zL rfl) [c54_b0, c54_o5, c54_o6, c54_o7, c54_o9, c54_o10, size_mk, get_mk_lt, get_mk_ge, frameOf, Eff.app, Heap.setOwn, g0, g1, g2, g3, g4, g, gr, er, er', hn, hn', k, hC, hp, e1, e2, e3, elems, rdOf, copyA, bounds]
  exact t
theorem c54_bad (J : CallF) (k55 : K55 J) (h : Heap) {cs Z C : List AV} {b v i : Nat} {l : List Int} (g : h.get b = .cells 1 v cs) {r : AV} (er : cs[i]? = some r) (hr : LR h r l) (hi : i < n) (h8 : n ≤ 8) (hbad : rowOk n l = false) (hC : C.length = 65) (hZ : Z.length = 65) (hn : C[0]? = some (G n)) :
    Tr tbl J (.trim L54 c54_b0) (fun s h' => s.get [true] = .ptr h.size 0 65 ∧ s.get [true, false] = .ptr (h.size + 1) 0 65 ∧ s.get [false, false, false, false] = .slice b 0 n v ∧ s.get [true, false, false, false] = G n ∧ s.get [false, true, false, false] = G i ∧ h' = ⟨h.get, h.size, [.cells 0 65 Z, .cells 0 65 C]⟩) .ret (fun s h' => s.get [true] = .ptr h.size 0 65 ∧ s.get [false, false] = .bool false ∧ h' = ⟨h.get, h.size, [.cells 0 65 C, .cells 0 65 C]⟩) := by
  have er' : ∀ h : i < cs.length, cs[i] = r := fun h => by rw [List.getElem?_eq_getElem h] at er; exact Option.some.inj er
  have hn' : ∀ h : 0 < C.length, C[0] = G n := fun h => by rw [List.getElem?_eq_getElem h] at hn; exact Option.some.inj hn
  have b1 := get_lt g (by simp)
  have et : C.take 65 = C := List.take_of_length_le (by omega)
  have ep : putAt Z 0 C = C := putAt_all _ _ (by omega)
  have hs := LR.sl hr
  obtain ⟨m, hm⟩ : ∃ m, l.length = m := ⟨_, rfl⟩
  by_cases c : m = n
  · have hin : allIn 0 9 l = false := by
      unfold rowOk at hbad
      simpa [hm, c] using hbad
    have k := k55 77 0 9 _ _ l rfl (LR.lo hr [.cells 0 65 Z, .cells 0 65 C]) (by omega)
    rw [hin] at k
    rw [hm, c] at hs
    have t : Tr tbl J ((.trim L54 c54_b0)) (fun s h' => s.get [true] = .ptr h.size 0 65 ∧ s.get [true, false] = .ptr (h.size + 1) 0 65 ∧ s.get [false, false, false, false] = .slice b 0 n v ∧ s.get [true, false, false, false] = G n ∧ s.get [false, true, false, false] = G i ∧ h' = ⟨h.get, h.size, [.cells 0 65 Z, .cells 0 65 C]⟩) .ret (fun s h' => s.get [true] = .ptr h.size 0 65 ∧ s.get [false, false] = .bool false ∧ h' = ⟨h.get, h.size, [.cells 0 65 C, .cells 0 65 C]⟩) := Tr.region fun s h hp => by
      obtain ⟨g0, g1, g2, g3, g4, rfl⟩ := hp
      rcases hs with ⟨rfl, h0⟩ | ⟨rfl, h0⟩ | ⟨b', v', rfl⟩ <;> first | omega | simp (disch := first|omega|exact zE rfl|exact zO|exact zL rfl) [c54_b0, c54_o5, c54_o6, c54_o7, c54_o8, size_mk, get_mk_lt, get_mk_ge, frameOf, Eff.app, Heap.setOwn, g0, g1, g2, g3, g4, g, er, er', hn, hn', k, hC, hZ, et, ep]
    exact t
  · rw [hm] at hs
    have t : Tr tbl J ((.trim L54 c54_b0)) (fun s h' => s.get [true] = .ptr h.size 0 65 ∧ s.get [true, false] = .ptr (h.size + 1) 0 65 ∧ s.get [false, false, false, false] = .slice b 0 n v ∧ s.get [true, false, false, false] = G n ∧ s.get [false, true, false, false] = G i ∧ h' = ⟨h.get, h.size, [.cells 0 65 Z, .cells 0 65 C]⟩) .ret (fun s h' => s.get [true] = .ptr h.size 0 65 ∧ s.get [false, false] = .bool false ∧ h' = ⟨h.get, h.size, [.cells 0 65 C, .cells 0 65 C]⟩) := Tr.region fun s h hp => by
      obtain ⟨g0, g1, g2, g3, g4, rfl⟩ := hp
      rcases hs with ⟨rfl, h0⟩ | ⟨rfl, h0⟩ | ⟨b', v', rfl⟩ <;> (try subst h0) <;> simp (disch := first|omega|exact zE rfl|exact zO|exact zL rfl) [c54_b0, c54_o5, c54_o6, c54_o7, c54_o8, size_mk, get_mk_lt, get_mk_ge, frameOf, Eff.app, Heap.setOwn, g0, g1, g2, g3, g4, g, er, er', hn, hn', hC, hZ, et, ep, c, inT]
    exact t
theorem isMat_row {i : Nat} (hm : isMat M = true) (hi : i < M.length) : (M.getD i []).length = M.length ∧ allIn 0 9 (M.getD i []) = true := by
  unfold isMat at hm
  simp only [Bool.and_eq_true, List.all_eq_true, decide_eq_true_eq] at hm
  have := hm.2 M[i] (List.getElem_mem _)
  unfold rowOk at this
  simp only [Bool.and_eq_true, decide_eq_true_eq] at this
  rw [List.getD_eq_getElem?_getD, List.getElem?_eq_getElem hi]
  exact this
theorem isMat_n (hm : isMat M = true) : 1 ≤ M.length ∧ M.length ≤ 8 := by
  unfold isMat at hm
  simp only [Bool.and_eq_true, decide_eq_true_eq] at hm
  exact hm.1
def rowsFrom (M : List (List Int)) (i : Nat) : Bool := (M.drop i).all (rowOk M.length)
theorem rowsFrom_s {i : Nat} (hi : i < M.length) : rowsFrom M i = (rowOk M.length (M.getD i []) && rowsFrom M (i + 1)) := by
  unfold rowsFrom
  rw [List.drop_eq_getElem_cons hi, List.all_cons, List.getD_eq_getElem?_getD, List.getElem?_eq_getElem hi]; rfl
theorem rowsFrom_n : rowsFrom M M.length = true := by
  unfold rowsFrom; rw [List.drop_of_length_le (by omega)]; rfl
theorem c54_loop (J : CallF) (k55 : K55 J) (h : Heap) (hy : MR h y M) (h8 : 1 ≤ M.length ∧ M.length ≤ 8) {Z : List AV} (hZ : Z.length = 65) : ∀ j i, i + j = M.length →
    (rowsFrom M i = true → Tr tbl J c54_l0 (fun s h' => s.get [true] = .ptr h.size 0 65 ∧ s.get [true, false] = .ptr (h.size + 1) 0 65 ∧ s.get [false, false, false, false] = y ∧ s.get [true, false, false, false] = G M.length ∧ s.get [false, true, false, false] = G i ∧ h' = ⟨h.get, h.size, [.cells 0 65 Z, .cells 0 65 (cM M i)]⟩) (.exit 0) (fun s h' => s.get [true] = .ptr h.size 0 65 ∧ s.get [true, false] = .ptr (h.size + 1) 0 65 ∧ h' = ⟨h.get, h.size, [.cells 0 65 Z, .cells 0 65 (matC M)]⟩)) ∧
    (rowsFrom M i = false → ∃ k, Tr tbl J c54_l0 (fun s h' => s.get [true] = .ptr h.size 0 65 ∧ s.get [true, false] = .ptr (h.size + 1) 0 65 ∧ s.get [false, false, false, false] = y ∧ s.get [true, false, false, false] = G M.length ∧ s.get [false, true, false, false] = G i ∧ h' = ⟨h.get, h.size, [.cells 0 65 Z, .cells 0 65 (cM M i)]⟩) .ret (fun s h' => s.get [true] = .ptr h.size 0 65 ∧ s.get [false, false] = .bool false ∧ h' = ⟨h.get, h.size, [.cells 0 65 (cM M k), .cells 0 65 (cM M k)]⟩)) := by
  intro j
  induction j with
  | zero =>
    intro i hi
    obtain rfl : i = M.length := by omega
    refine ⟨fun _ => ?_, fun hne => by rw [rowsFrom_n] at hne; cases hne⟩
    rw [cM_all]
    generalize matC M = C at *
    generalize M.length = n at *
    have t : Tr tbl J ((.trim L54 c54_b0)) (fun s h' => s.get [true] = .ptr h.size 0 65 ∧ s.get [true, false] = .ptr (h.size + 1) 0 65 ∧ s.get [false, false, false, false] = y ∧ s.get [true, false, false, false] = G n ∧ s.get [false, true, false, false] = G n ∧ h' = ⟨h.get, h.size, [.cells 0 65 Z, .cells 0 65 C]⟩) (.exit 0) (fun s h' => s.get [true] = .ptr h.size 0 65 ∧ s.get [true, false] = .ptr (h.size + 1) 0 65 ∧ h' = ⟨h.get, h.size, [.cells 0 65 Z, .cells 0 65 C]⟩) := Tr.region fun s h hp => by
      obtain ⟨g0, g1, g2, g3, g4, rfl⟩ := hp
      simp (disch := first|omega|exact zE rfl|exact zO|exact zL rfl) [c54_b0, c54_o5, size_mk, get_mk_lt, get_mk_ge, frameOf, Eff.app, Heap.setOwn, g0, g1, g2, g3, g4]
    exact Tr.out t (by simp)
  | succ j ih =>
    intro i hi
    have ih' := ih (i + 1) (by omega)
    have hiM : i < M.length := by omega
    obtain ⟨b, v, cs, r, rfl, g, er, hr⟩ := hy.row hiM
    rw [rowsFrom_s hiM]
    by_cases c : rowOk M.length (M.getD i []) = true
    · rw [c, Bool.true_and]
      have c' := c
      unfold rowOk at c'
      simp only [Bool.and_eq_true, decide_eq_true_eq] at c'
      rcases hr.cases with ⟨_, e⟩ | ⟨_, e⟩ | ⟨rb, rv, rfl, gr⟩
      · rw [e] at c'; have := c'.1; simp at this; omega
      · rw [e] at c'; have := c'.1; simp at this; omega
      · rw [c'.1] at er
        have t := c54_good J k55 h (Z := Z) (C := cM M i) g er gr hiM h8.2 c'.1 c'.2 (cM_len _ _) rfl (cM_put M (by omega) rfl (by omega))
        exact ⟨fun e => Tr.next t (ih'.1 e), fun e => by
          obtain ⟨k, tk⟩ := ih'.2 e
          exact ⟨k, Tr.next t tk⟩⟩
    · have c0 : rowOk M.length (M.getD i []) = false := by simpa using c
      rw [c0, Bool.false_and]
      exact ⟨fun e => (by cases e), fun _ => ⟨i, Tr.out (c54_bad J k55 h g er hr hiM h8.2 c0 (cM_len _ _) hZ rfl) (by simp)⟩⟩
theorem c54_ok (J : CallF) (k57 : K57 J) (k55 : K55 J) (hJ : ∀ a h, J 54 a h = none) (h : Heap) (hy : MR h y M) : ∃ v own, CallsTo tbl J 54 [y] h (v, own, false) ∧ own = [] ∧ ∃ cs, v = .tup [.agg cs, .bool (isMat M)] ∧ cs.length = 65 ∧ (isMat M = true → cs = matC M) := by
  refine Tr.fny (cf := c54) (e := .ret) (s := T.set .leaf [] y) (by decide) rfl (hJ _ _) rfl rfl (by simp) ?_
  have fin : ∀ (C : List AV) (o : Bool) (D : List AV), AV.flats C = true → C.length = 65 → o = isMat M → (o = true → C = matC M) → ∀ s h', (s.get [true] = .ptr h.size 0 65 ∧ s.get [false, false] = .bool o ∧ h' = ⟨h.get, h.size, [.cells 0 65 C, .cells 0 65 D]⟩) → ∃ vs, evRess h' s c54.results = some vs ∧ (if (one vs).flat = true then [] else h'.own) = [] ∧ ∃ cs, one vs = .tup [.agg cs, .bool (isMat M)] ∧ cs.length = 65 ∧ (isMat M = true → cs = matC M) := by
    rintro C o D hf hl rfl hC s h' ⟨q1, q2, rfl⟩
    have et : C.take 65 = C := List.take_of_length_le (by omega)
    refine ⟨[.agg C, .bool (isMat M)], by simp [c54, evRess, evRes, q1, q2, loadA, get_mk_ge, takeA, et, hl], by simp [one, AV.flat, AV.flats, hf], C, rfl, hl, hC⟩
  have cfl : ∀ i, AV.flats (cM M i) = true := fun i => by
    unfold cM
    simp only [AV.flats, AV.flat, sq_flat, Bool.and_self]
  have mfl : AV.flats (matC M) = true := by rw [← cM_all]; exact cfl _
  have hs := hy.sl
  have c0 := cM_0 M
  have lZ : (List.replicate 65 (AV.int .i64 0)).length = 65 := List.length_replicate
  generalize hZ : List.replicate 65 (AV.int .i64 0) = Z at *
  have l0 := cM_len M 0
  have k := fun h => k57 M.length 1 8 h
  have t0 : Tr tbl J ((.seq c54_o0 c54_o1)) (fun s h' => s = T.set .leaf [] y ∧ h' = frameOf h) .normal (fun s h' => s.get [] = y ∧ s.get [true] = .ptr h.size 0 65 ∧ s.get [true, false] = .ptr (h.size + 1) 0 65 ∧ h' = ⟨h.get, h.size, [.cells 0 65 Z, .cells 0 65 (cM M 0)]⟩) := Tr.region fun s h hp => by
    obtain ⟨rfl, rfl⟩ := hp
    have ep : putAt Z 0 (cM M 0) = cM M 0 := putAt_all _ _ (by omega)
    generalize cM M 0 = C at *
    generalize M.length = n at *
    rcases hs with ⟨rfl, rfl⟩ | ⟨rfl, rfl⟩ | ⟨b, v, rfl⟩ <;> (try rw [show ((0 : Nat) : Int) = 0 from rfl] at c0) <;> simp (disch := first|omega|exact zE rfl|exact zO|exact zL rfl) [-List.reduceReplicate, c54_o0, c54_o1, frameOf, size_mk, get_mk_lt, get_mk_ge, frameOf, Eff.app, Heap.setOwn, hZ, lZ, l0, c0, ep]
  by_cases h18 : (1 : Int) ≤ M.length ∧ (M.length : Int) ≤ 8
  · have kk := k ⟨h.get, h.size, [.cells 0 65 Z, .cells 0 65 (cM M 0)]⟩
    rw [decide_eq_true h18] at kk
    have hc0 : (cM M 0)[0]? = some (G M.length) := rfl
    have hc1 : ∀ h, (cM M 0)[0]'h = G M.length := fun h => rfl
    have t1 : Tr tbl J ((.seq c54_o2 (.cond (.s [false, true, true]) (.seq c54_o3 .ret) .skip))) (fun s h' => s.get [] = y ∧ s.get [true] = .ptr h.size 0 65 ∧ s.get [true, false] = .ptr (h.size + 1) 0 65 ∧ h' = ⟨h.get, h.size, [.cells 0 65 Z, .cells 0 65 (cM M 0)]⟩) .normal (fun s h' => s.get [] = y ∧ s.get [true] = .ptr h.size 0 65 ∧ s.get [true, false] = .ptr (h.size + 1) 0 65 ∧ h' = ⟨h.get, h.size, [.cells 0 65 Z, .cells 0 65 (cM M 0)]⟩) := Tr.region fun s h hp => by
      obtain ⟨g0, g1, g2, rfl⟩ := hp
      generalize cM M 0 = C at *
      simp (disch := first|omega|exact zE rfl|exact zO|exact zL rfl) [c54_o2, size_mk, get_mk_lt, get_mk_ge, frameOf, Eff.app, Heap.setOwn, g0, g1, g2, kk, hc0, hc1, l0]
    have t2 : Tr tbl J (c54_o4) (fun s h' => s.get [] = y ∧ s.get [true] = .ptr h.size 0 65 ∧ s.get [true, false] = .ptr (h.size + 1) 0 65 ∧ h' = ⟨h.get, h.size, [.cells 0 65 Z, .cells 0 65 (cM M 0)]⟩) .normal (fun s h' => s.get [true] = .ptr h.size 0 65 ∧ s.get [true, false] = .ptr (h.size + 1) 0 65 ∧ s.get [false, false, false, false] = y ∧ s.get [true, false, false, false] = G M.length ∧ s.get [false, true, false, false] = G ((0 : Nat) : Int) ∧ h' = ⟨h.get, h.size, [.cells 0 65 Z, .cells 0 65 (cM M 0)]⟩) := Tr.region fun s h hp => by
      obtain ⟨g0, g1, g2, rfl⟩ := hp
      generalize cM M 0 = C at *
      generalize M.length = n at *
      rcases hs with ⟨rfl, rfl⟩ | ⟨rfl, rfl⟩ | ⟨b, v, rfl⟩ <;> simp (disch := first|omega|exact zE rfl|exact zO|exact zL rfl) [c54_o4, size_mk, get_mk_lt, get_mk_ge, frameOf, Eff.app, Heap.setOwn, g0, g1, g2]
    have hl := c54_loop J k55 h hy ⟨by omega, by omega⟩ lZ M.length 0 (by omega)
    have hd : isMat M = rowsFrom M 0 := by
      unfold isMat rowsFrom
      rw [List.drop_zero, decide_eq_true (⟨by omega, by omega⟩ : 1 ≤ M.length ∧ M.length ≤ 8), Bool.true_and]
    by_cases c : rowsFrom M 0 = true
    ·
      have t3 : Tr tbl J ((.seq c54_o11 .ret)) (fun s h' => s.get [true] = .ptr h.size 0 65 ∧ s.get [true, false] = .ptr (h.size + 1) 0 65 ∧ h' = ⟨h.get, h.size, [.cells 0 65 Z, .cells 0 65 (matC M)]⟩) .ret (fun s h' => s.get [true] = .ptr h.size 0 65 ∧ s.get [false, false] = .bool true ∧ h' = ⟨h.get, h.size, [.cells 0 65 (matC M), .cells 0 65 (matC M)]⟩) := Tr.region fun s h hp => by
        obtain ⟨g0, g1, rfl⟩ := hp
        have lm : (matC M).length = 65 := by rw [← cM_all]; exact cM_len _ _
        have et : (matC M).take 65 = matC M := List.take_of_length_le (by omega)
        have ep : putAt Z 0 (matC M) = matC M := putAt_all _ _ (by omega)
        generalize matC M = C at *
        simp (disch := first|omega|exact zE rfl|exact zO|exact zL rfl) [c54_o11, size_mk, get_mk_lt, get_mk_ge, frameOf, Eff.app, Heap.setOwn, g0, g1, lm, et, ep, lZ]
      exact Tr.post (fin (matC M) true _ mfl (by rw [← cM_all]; exact cM_len _ _) (by rw [hd, c]) (fun _ => rfl)) (Tr.app2 t0 (Tr.seq t1 (Tr.seq (Tr.seq t2 (Tr.block (hl.1 c))) t3)))
    · have c' : rowsFrom M 0 = false := by simpa using c
      obtain ⟨k, tk⟩ := hl.2 c'
      exact Tr.post (fin (cM M k) false _ (cfl k) (cM_len _ _) (by rw [hd, c']) (fun e => by cases e)) (Tr.app2 t0 (Tr.seq t1 (Tr.seq_out (Tr.seq t2 (Tr.block_out tk (by simp))) (by simp))))
  · have kk := k ⟨h.get, h.size, [.cells 0 65 Z, .cells 0 65 (cM M 0)]⟩
    rw [decide_eq_false h18] at kk
    have hc0 : (cM M 0)[0]? = some (G M.length) := rfl
    have hc1 : ∀ h, (cM M 0)[0]'h = G M.length := fun h => rfl
    have t1 : Tr tbl J ((.seq c54_o2 (.cond (.s [false, true, true]) (.seq c54_o3 .ret) .skip))) (fun s h' => s.get [] = y ∧ s.get [true] = .ptr h.size 0 65 ∧ s.get [true, false] = .ptr (h.size + 1) 0 65 ∧ h' = ⟨h.get, h.size, [.cells 0 65 Z, .cells 0 65 (cM M 0)]⟩) .ret (fun s h' => s.get [true] = .ptr h.size 0 65 ∧ s.get [false, false] = .bool false ∧ h' = ⟨h.get, h.size, [.cells 0 65 (cM M 0), .cells 0 65 (cM M 0)]⟩) := Tr.region fun s h hp => by
      obtain ⟨g0, g1, g2, rfl⟩ := hp
      have et : (cM M 0).take 65 = cM M 0 := List.take_of_length_le (by omega)
      have ep : putAt Z 0 (cM M 0) = cM M 0 := putAt_all _ _ (by omega)
      generalize cM M 0 = C at *
      simp (disch := first|omega|exact zE rfl|exact zO|exact zL rfl) [c54_o2, c54_o3, size_mk, get_mk_lt, get_mk_ge, frameOf, Eff.app, Heap.setOwn, g0, g1, g2, kk, hc0, hc1, l0, et, ep, lZ]
    have hd : isMat M = false := by
      unfold isMat
      rw [decide_eq_false (by omega), Bool.false_and]
    exact Tr.post (fin (cM M 0) false _ (cfl 0) (cM_len _ _) hd.symm (fun e => by cases e)) (Tr.app2 t0 (Tr.seq_out t1 (by simp)))
end
def Good54 (args : List AV) (h : Heap) (v : AV) (own : List AObj) : Prop := ∀ y M, args = [y] → MR h y M → own = [] ∧ ∃ cs, v = .tup [.agg cs, .bool (isMat M)] ∧ cs.length = 65 ∧ (isMat M = true → cs = matC M)
noncomputable def R14 : CallF := addX tbl R13 54 Good54
theorem s14 : Sound Go.Proofs.Try.prog R14 := Sound.addX follows ok s13 (by decide) Good54
abbrev K54 (J : CallF) : Prop := ∀ (h : Heap) (y : AV) (M : List (List Int)), MR h y M → ∃ cs, J 54 [y] h = some (.tup [.agg cs, .bool (isMat M)], [], false) ∧ cs.length = 65 ∧ (isMat M = true → cs = matC M)
theorem k54 : K54 R14 := fun h y M hy => by
  obtain ⟨v, own, e, q⟩ := c54_ok R13 (fun n lo hi h => k57 n lo hi h) (fun f lo hi h x A a b c => k55 f lo hi h x A a b c) (fun _ _ => rfl) h hy
  obtain ⟨v', own', e', g⟩ := addX_some (tbl := tbl) (I := R13) (f := 54) (Good := Good54) (args := [y]) (h := h) ⟨v, own, e, fun y' M' hargs h1 => by
    simp only [List.cons.injEq, and_true] at hargs
    subst hargs
    rw [← hy.inj h1]; exact q⟩
  obtain ⟨o1, cs, o2, o3⟩ := g y M rfl hy
  subst o1 o2
  exact ⟨cs, e', o3⟩
section
variable {M : List (List Int)} {y : AV} {n : Nat}
end
def Good21 (args : List AV) (h : Heap) (v : AV) (own : List AObj) : Prop := ∀ y M, args = [y] → MR h y M → own = [] ∧ v = .bool (isMat M)
noncomputable def R15 : CallF := addX tbl R14 21 Good21
theorem s15 : Sound Go.Proofs.Try.prog R15 := Sound.addX follows ok s14 (by decide) Good21
section
variable {lo : Int} {b v n : Nat} {A : List Int}
abbrev L22 : List Path := [[], [false], [true], [false, false, false]]
theorem c22_loop (J : CallF) (H : Heap) {N : Int} {ca : List AV} (ha : H.get b = .cells 1 v ca) (hca : ∀ i : Nat, ca[i]? = (A[i]?).map fun n => AV.int .i64 n) (la : A.length = n) (hn : n < 9223372036854775808) :
    ∀ j i, i + j = n → (allIn lo 100000000 (A.drop i) = true → Tr tbl J c22_l0 (fun s h => s.get [] = .slice b 0 n v ∧ s.get [false] = G N ∧ s.get [true] = G lo ∧ s.get [false, false, false] = G i ∧ h = H) (.exit 0) (fun s h => s.get [] = .slice b 0 n v ∧ s.get [false] = G N)) ∧
      (allIn lo 100000000 (A.drop i) = false → Tr tbl J c22_l0 (fun s h => s.get [] = .slice b 0 n v ∧ s.get [false] = G N ∧ s.get [true] = G lo ∧ s.get [false, false, false] = G i ∧ h = H) .ret (fun s h => s.get [true, true] = .bool false)) := by
  intro j
  induction j with
  | zero =>
    intro i hi'
    obtain rfl : i = n := by omega
    have e1 : A.drop i = [] := List.drop_of_length_le (by omega)
    rw [e1]
    refine ⟨fun _ => ?_, fun hne => by cases hne⟩
    have t : Tr tbl J ((.trim L22 c22_b0)) (fun s h => s.get [] = .slice b 0 i v ∧ s.get [false] = G N ∧ s.get [true] = G lo ∧ s.get [false, false, false] = G i ∧ h = H) (.exit 0) (fun s h => s.get [] = .slice b 0 i v ∧ s.get [false] = G N) := Tr.region fun s h hp => by
      obtain ⟨g0, g1, g2, g3, rfl⟩ := hp
      simp (disch := first|omega|exact zE rfl|exact zO|exact zL rfl) [c22_b0, c22_o2, zG, g0, g1, g2, g3]
    exact Tr.out t (by simp)
  | succ j ih =>
    intro i hi'
    have hia : i < A.length := by omega
    have ea : A[i]? = some A[i] := List.getElem?_eq_getElem hia
    have da : A.drop i = A[i] :: A.drop (i + 1) := List.drop_eq_getElem_cons hia
    rw [da]
    have xa := hca i
    rw [ea] at xa
    simp only [Option.map_some] at xa
    clear ea da hca
    generalize A[i] = p at *
    have ih' := ih (i + 1) (by omega)
    by_cases hp : lo ≤ p ∧ p ≤ 100000000
    ·
      have t : Tr tbl J ((.trim L22 c22_b0)) (fun s h => s.get [] = .slice b 0 n v ∧ s.get [false] = G N ∧ s.get [true] = G lo ∧ s.get [false, false, false] = G i ∧ h = H) .normal (fun s h => s.get [] = .slice b 0 n v ∧ s.get [false] = G N ∧ s.get [true] = G lo ∧ s.get [false, false, false] = G ((i + 1 : Nat) : Int) ∧ h = H) := Tr.region fun s h hp => by
        obtain ⟨g0, g1, g2, g3, rfl⟩ := hp
        simp (disch := first|omega|exact zE rfl|exact zO|exact zL rfl) [c22_b0, c22_o2, c22_o3, c22_o5, zG, g0, g1, g2, g3, ha, xa]
      have e1 : allIn lo 100000000 (p :: A.drop (i + 1)) = allIn lo 100000000 (A.drop (i + 1)) := by simp [allIn, hp]
      rw [e1]
      exact ⟨fun e => Tr.next t (ih'.1 e), fun e => Tr.next t (ih'.2 e)⟩
    · refine ⟨fun e => by simp [allIn] at e; omega, fun _ => ?_⟩
      by_cases h0 : p < lo
      ·
        have t : Tr tbl J ((.trim L22 c22_b0)) (fun s h => s.get [] = .slice b 0 n v ∧ s.get [false] = G N ∧ s.get [true] = G lo ∧ s.get [false, false, false] = G i ∧ h = H) .ret (fun s h => s.get [true, true] = .bool false) := Tr.region fun s h hp => by
          obtain ⟨g0, g1, g2, g3, rfl⟩ := hp
          simp (disch := first|omega|exact zE rfl|exact zO|exact zL rfl) [c22_b0, c22_o2, c22_o3, c22_o4, zG, g0, g1, g2, g3, ha, xa]
        exact Tr.out t (by simp)
      ·
        have t : Tr tbl J ((.trim L22 c22_b0)) (fun s h => s.get [] = .slice b 0 n v ∧ s.get [false] = G N ∧ s.get [true] = G lo ∧ s.get [false, false, false] = G i ∧ h = H) .ret (fun s h => s.get [true, true] = .bool false) := Tr.region fun s h hp => by
          obtain ⟨g0, g1, g2, g3, rfl⟩ := hp
          simp (disch := first|omega|exact zE rfl|exact zO|exact zL rfl) [c22_b0, c22_o2, c22_o3, c22_o4, zG, g0, g1, g2, g3, ha, xa]
        exact Tr.out t (by simp)
theorem c22_ok (J : CallF) (hJ : ∀ a h, J 22 a h = none) (h : Heap) {x : AV} (N : Int) (hx : LR h x A) (hn : A.length < 9223372036854775808) : CallsTo tbl J 22 [x, G N, G lo] h (.bool (allIn lo 100000000 A && decide ((A.length : Int) = N)), [], false) := by
  refine Tr.fnv (cf := c22) (e := .ret) (s := T.set (T.set (T.set .leaf [] x) [false] (G N)) [true] (G lo)) (by decide) rfl (hJ _ _) rfl rfl rfl (by simp) ?_
  have hx0 : LR (frameOf h) x A := LR.lo hx []
  have t0 : Tr tbl J (c22_o0) (fun s h' => s = T.set (T.set (T.set .leaf [] x) [false] (G N)) [true] (G lo) ∧ h' = frameOf h) .normal (fun s h' => s.get [] = x ∧ s.get [false] = G N ∧ s.get [true] = G lo ∧ h' = frameOf h) := Tr.region fun s h hp => by
    obtain ⟨rfl, rfl⟩ := hp
    simp (disch := first|omega|exact zE rfl|exact zO|exact zL rfl) [c22_o0, zG]
  have t00 : Tr tbl J (c22_o1) (fun s h' => s.get [] = x ∧ s.get [false] = G N ∧ s.get [true] = G lo ∧ h' = frameOf h) .normal (fun s h' => s.get [] = x ∧ s.get [false] = G N ∧ s.get [true] = G lo ∧ s.get [false, false, false] = G ((0 : Nat) : Int) ∧ h' = frameOf h) := Tr.region fun s h hp => by
    obtain ⟨g0, g1, g2, rfl⟩ := hp
    simp (disch := first|omega|exact zE rfl|exact zO|exact zL rfl) [c22_o1, zG, g0, g1, g2]
  have nil : ∀ y, (y = .nils ∨ y = .slice0) → x = y → Tr tbl J (.seq (.block 0 c22_l0) (.seq c22_o6 .ret)) (fun s h' => s.get [] = x ∧ s.get [false] = G N ∧ s.get [true] = G lo ∧ s.get [false, false, false] = G ((0 : Nat) : Int) ∧ h' = frameOf h) .ret (fun s h => s.get [true, true] = .bool (decide ((0 : Int) = N))) := fun y hy e => by
    subst e
    have t2 : Tr tbl J ((.trim L22 c22_b0)) (fun s h' => s.get [] = x ∧ s.get [false] = G N ∧ s.get [true] = G lo ∧ s.get [false, false, false] = G ((0 : Nat) : Int) ∧ h' = frameOf h) (.exit 0) (fun s h => s.get [] = x ∧ s.get [false] = G N) := Tr.region fun s h hp => by
      obtain ⟨g0, g1, g2, g3, rfl⟩ := hp
      rcases hy with rfl | rfl <;> simp (disch := first|omega|exact zE rfl|exact zO|exact zL rfl) [c22_b0, c22_o2, zG, g0, g1, g2, g3]
    have t3 : Tr tbl J ((.seq c22_o6 .ret)) (fun s h => s.get [] = x ∧ s.get [false] = G N) .ret (fun s h => s.get [true, true] = .bool (decide ((0 : Int) = N))) := Tr.region fun s h hp => by
      obtain ⟨g0, g1⟩ := hp
      rcases hy with rfl | rfl <;> by_cases c : (0 : Int) = N <;> simp (disch := first|omega|exact zE rfl|exact zO|exact zL rfl) [c22_o6, frameOf, Heap.size, Heap.get, Eff.app, Heap.setOwn, g0, g1, c]
    exact Tr.seq (Tr.block (Tr.out t2 (by simp))) t3
  rcases hx.cases with ⟨e, hA⟩ | ⟨e, hA⟩ | ⟨b, v, rfl, g⟩
  · have t1 := nil _ (.inl rfl) e
    subst hA
    exact Tr.post (fun s h q => by simp [c22, q, allIn]) (Tr.seq t0 (Tr.assoc' (Tr.seq t00 t1)))
  · have t1 := nil _ (.inr rfl) e
    subst hA
    exact Tr.post (fun s h q => by simp [c22, q, allIn]) (Tr.seq t0 (Tr.assoc' (Tr.seq t00 t1)))
  · have gg : (frameOf h).get b = .cells 1 v (A.map fun n => AV.int .i64 n) := by
      rcases hx0.cases with ⟨e, _⟩ | ⟨e, _⟩ | ⟨b', v', e, g'⟩
      · cases e
      · cases e
      · simp only [AV.slice.injEq] at e
        obtain ⟨rfl, _, _, rfl⟩ := e
        exact g'
    obtain ⟨l1, l2⟩ := c22_loop (lo := lo) (N := N) J (frameOf h) gg (fun i => List.getElem?_map) rfl hn A.length 0 (by omega)
    rw [List.drop_zero] at l1 l2
    by_cases e : allIn lo 100000000 A = true
    · rw [e, Bool.true_and]
      have t3 : Tr tbl J ((.seq c22_o6 .ret)) (fun s h => s.get [] = .slice b 0 A.length v ∧ s.get [false] = G N) .ret (fun s h => s.get [true, true] = .bool (decide ((A.length : Int) = N))) := Tr.region fun s h hp => by
        obtain ⟨g0, g1⟩ := hp
        generalize A.length = m at *
        by_cases c : (m : Int) = N <;> simp (disch := first|omega|exact zE rfl|exact zO|exact zL rfl) [c22_o6, frameOf, Heap.size, Heap.get, Eff.app, Heap.setOwn, g0, g1, c]
      exact Tr.post (fun s h q => by simp [c22, q]) (Tr.seq t0 (Tr.seq (Tr.seq t00 (Tr.block (l1 e))) t3))
    · have e' : allIn lo 100000000 A = false := by simpa using e
      rw [e', Bool.false_and]
      exact Tr.post (fun s h q => by simp [c22, q]) (Tr.seq t0 (Tr.seq_out (Tr.seq t00 (Tr.block_out (l2 e') (by simp))) (by simp)))
end
def spec22 : SpecF := fun args h => match args with
  | [x, .int .i64 N, .int .i64 lo] => match lst h x with
    | some A => if A.length < 9223372036854775808 then some (.bool (allIn lo 100000000 A && decide ((A.length : Int) = N)), [], false) else none
    | _ => none
  | _ => none
noncomputable def R16 : CallF := addI R15 22 spec22
theorem s16 : Sound Go.Proofs.Try.prog R16 := Sound.add follows ok s15 (by decide) (fun args h x e => by
  unfold spec22 at e
  split at e
  · split at e
    · rename_i h1
      split at e
      · rename_i hn
        simp only [Option.some.injEq] at e; subst e; exact c22_ok R15 (fun _ _ => rfl) h _ (lst_lr.1 h1) hn
      · cases e
    · cases e
  · cases e)
def lf (f : Nat → Int) (n : Nat) : List Int := (List.range n).map f
theorem lf_len (f : Nat → Int) (n : Nat) : (lf f n).length = n := by simp [lf]
theorem lf_at (f : Nat → Int) {n i : Nat} (h : i < n) : (lf f n)[i]? = some (f i) := by simp [lf, h]
theorem lf_getD (f : Nat → Int) {n i : Nat} (h : i < n) : (lf f n).getD i 0 = f i := by rw [List.getD_eq_getElem?_getD, lf_at f h]; rfl
theorem lf_ext (f g : Nat → Int) (n : Nat) (h : ∀ x, x < n → f x = g x) : lf f n = lf g n := by
  unfold lf; apply List.map_congr_left; intro x hx; rw [h x (by simpa using hx)]
theorem gl_len (f : Nat → Int) (n : Nat) : (gs (lf f n)).length = n := by simp [lf_len]
theorem gl_at (f : Nat → Int) {n i : Nat} (h : i < n) : (gs (lf f n))[i]? = some (G (f i)) := by rw [List.getElem?_map, lf_at f h]; rfl
theorem gl_set (f : Nat → Int) (n i : Nat) (b : Int) (h : i < n) : (gs (lf f n)).set i (G b) = gs (lf (fun x => if x = i then b else f x) n) := by
  apply List.ext_getElem?
  intro x
  by_cases hx : x < n
  · rw [gl_at _ hx]
    by_cases e : x = i
    · subst e; rw [List.getElem?_set_self (by rw [gl_len]; exact h), if_pos rfl]
    · rw [List.getElem?_set_ne (fun e' => e e'.symm), gl_at _ hx, if_neg e]
  · rw [List.getElem?_eq_none (by rw [List.length_set, gl_len]; omega), List.getElem?_eq_none (by rw [gl_len]; omega)]
theorem gl_rep (n : Nat) : List.replicate n (AV.int .i64 0) = gs (lf (fun _ => 0) n) := by
  apply List.ext_getElem?
  intro x
  by_cases hx : x < n
  · rw [gl_at _ hx, List.getElem?_replicate, if_pos hx]
  · rw [List.getElem?_eq_none (by simp; omega), List.getElem?_eq_none (by rw [gl_len]; omega)]
theorem lf_of (L : List Int) : L = lf (fun i => L.getD i 0) L.length := by
  apply List.ext_getElem?
  intro i
  by_cases hi : i < L.length
  · rw [lf_at _ hi, List.getD_eq_getElem?_getD, List.getElem?_eq_getElem hi]; rfl
  · rw [List.getElem?_eq_none (by omega), List.getElem?_eq_none (by rw [lf_len]; omega)]
theorem allIn_at {lo hi : Int} {A : List Int} (h : allIn lo hi A = true) {i : Nat} (hi' : i < A.length) : lo ≤ A.getD i 0 ∧ A.getD i 0 ≤ hi := by
  unfold allIn at h
  rw [List.all_eq_true] at h
  have := h A[i] (List.getElem_mem _)
  rw [List.getD_eq_getElem?_getD, List.getElem?_eq_getElem hi']
  simpa using this
theorem ent_bd {M : List (List Int)} (hm : isMat M = true) (i j : Nat) : 0 ≤ ent M i j ∧ ent M i j ≤ 9 := by
  unfold ent
  by_cases hi : i < M.length
  · obtain ⟨h1, h2⟩ := isMat_row hm hi
    by_cases hj : j < (M.getD i []).length
    · exact allIn_at h2 hj
    · rw [List.getD_eq_getElem?_getD (l := M.getD i []), List.getElem?_eq_none (by omega)]; exact ⟨Int.le_refl _, by decide⟩
  · rw [List.getD_eq_getElem?_getD (l := M), List.getElem?_eq_none (by omega)]; simp
theorem matC_at (M : List (List Int)) {i j : Nat} (hi : i < 8) (hj : j < 8) : (matC M)[1 + i * 8 + j]? = some (G (ent M i j)) := by
  rw [show 1 + i * 8 + j = (i * 8 + j) + 1 by omega]
  show (sq _)[i * 8 + j]? = _
  rw [sq_at _ (by omega), show (i * 8 + j) / 8 = i by omega, show (i * 8 + j) % 8 = j by omega]
theorem matC_len (M : List (List Int)) : (matC M).length = 65 := by simp [matC, sq_len]
theorem act_fa (call : CallF) (h0 : Heap) (s : T) (h : Heap) (off : Nat) (x : AOpd) : act call h0 s h (.fieldAddr off x) = pure1 (match x.ev s with | .ptr b o v => some (.ptr b (o + off) v) | _ => none) := rfl
theorem act_load (call : CallF) (h0 : Heap) (s : T) (h : Heap) (k : Option Nat) (x : AOpd) : act call h0 s h (.load k x) = match x.ev s with
    | .ptr b o v => (loadA h k (.ptr b o v)).map fun r => (r, { reads := [(b, o, k.getD 1)] })
    | _ => none := rfl
def nxv (M : List (List Int)) (X : List Int) (i : Nat) : Nat → Int
  | 0 => 0
  | j + 1 => nxv M X i j + ent M i j * X.getD j 0
def nxtL (M : List (List Int)) (X : List Int) : List Int := lf (fun i => nxv M X i M.length) M.length
section
variable {M : List (List Int)} {X : List Int} {n : Nat}
end
structure NG (H0 h : Heap) (x : AV) (L : List Int) : Prop where
  k : Kp (fun _ => False) H0 h
  x0 : ∀ q, blk x = some q → H0.size ≤ q
  l : LV h x (gs L)
theorem NG.nil (H0 : Heap) : NG H0 H0 .nils [] := ⟨Kp.refl _, fun _ e => (by cases e), LV.nil _⟩
theorem NG.list {H0 h : Heap} {x : AV} {L : List Int} (t : NG H0 h x L) : listOf h x = some L := by
  rcases t.l with ⟨rfl, e⟩ | ⟨b, rfl, g, n⟩
  · have : L = [] := by simpa using e
    subst this; rfl
  · simp only [List.length_map] at g ⊢
    exact listOf_cells g rfl
theorem NG.kp {H0 h h' : Heap} {x : AV} {L : List Int} (t : NG H0 h x L) (k : Kp (fun _ => False) h h') : NG H0 h' x L := ⟨t.k.trans k, t.x0, t.l.kp k (fun _ _ => id)⟩
theorem NG.app {H0 h : Heap} (h0 : Nat) {x : AV} {L : List Int} (t : NG H0 h x L) (z : Int) (hn : L.length ≤ 1000000) :
    ∃ x1 e h2, appA (h.plus [.cells 1 1 [G z]]) h0 none 1 8 1 [G z] x = some (x1, e) ∧ Eff.app e (h.plus [.cells 1 1 [G z]]) = some h2 ∧ NG H0 h2 x1 (L ++ [z]) ∧ AV.cells x1 = some [x1] := by
  have k1 : Kp (fun _ => False) h (h.plus [.cells 1 1 [G z]]) := Kp.plus _ _
  obtain ⟨x1, e, h2, q1, q2, q3, q4, q5, q6⟩ := app_v (h.plus [.cells 1 1 [G z]]) h0 8 (G z) (t.l.kp k1 (fun _ _ => id)) (by simp; omega)
  have hsz : (h.plus [.cells 1 1 [G z]]).size = h.size + 1 := by rw [plus_size]; rfl
  refine ⟨x1, e, h2, q1, q2, ⟨(t.k.trans k1).late q4 t.x0, fun q hq => ?_, by simpa using q3⟩, q6⟩
  rcases q5 with h' | ⟨_, h'⟩
  · rw [h'] at hq; exact t.x0 q hq
  · rw [h'] at hq; cases hq; have := t.k.size; omega
theorem NG.fr {h h' : Heap} {x : AV} {L : List Int} (t : NG (frameOf h) h' x L) : NG h (h.plus h'.own) x L := by
  have e := Kp.own t.k
  have hg : ∀ b, h'.get b = (h.plus h'.own).get b := fun b => by rw [e]; exact fr_get h _ b
  refine ⟨Kp.plus _ _, t.x0, ?_⟩
  rcases t.l with l | ⟨b, rfl, g, n⟩
  · exact .inl l
  · have hb : h.size ≤ b := t.x0 b rfl
    exact .inr ⟨b, rfl, (hg b).symm.trans g, by rw [plus_N]; unfold Heap.size at hb; omega⟩
theorem NG.fr0 {h h' : Heap} {x : AV} {L : List Int} (t : NG (frameOf h) h' x L) : NG h (h.plus (if (one [x]).flat then [] else h'.own)) x L := by
  split
  · rename_i hf
    rcases t.l with ⟨rfl, e⟩ | ⟨b, rfl, g, n⟩
    · have : L = [] := by simpa using e
      subst this
      have : h.plus [] = h := by simp [Heap.plus]
      rw [this]; exact NG.nil h
    · simp [one, AV.flat, AV.flats] at hf
  · exact t.fr
def vOk (lo : Int) (M : List (List Int)) (X : List Int) : Prop := isMat M = true ∧ X.length = M.length ∧ allIn lo 100000000 X = true
def Good58 (args : List AV) (h : Heap) (v : AV) (own : List AObj) : Prop := ∀ M x X, args = [.agg (matC M), x] → LR h x X → vOk 0 M X → v = .slice (h.size + 1) 0 M.length M.length ∧ own = [.cells 0 65 (matC M), .cells 1 M.length (gs (nxtL M X))]
noncomputable def R17 : CallF := addX tbl R16 58 Good58
theorem s17 : Sound Go.Proofs.Try.prog R17 := Sound.addX follows ok s16 (by decide) Good58
section
variable {M : List (List Int)} {X : List Int} {x y : AV}
end
def Good19 (args : List AV) (h : Heap) (v : AV) (own : List AObj) : Prop := ∀ y x M X, args = [y, x] → MR h y M → LR h x X → (vOk 0 M X → ∃ w, v = .tup [w, G 0] ∧ NG h (h.plus own) w (nxtL M X)) ∧ (¬ vOk 0 M X → v = .tup [.nils, G 2] ∧ own = [])
noncomputable def R18 : CallF := addX tbl R17 19 Good19
theorem s18 : Sound Go.Proofs.Try.prog R18 := Sound.addX follows ok s17 (by decide) Good19
section
variable {M : List (List Int)} {X : List Int} {n : Nat}
end
def Good25 (args : List AV) (h : Heap) (v : AV) (own : List AObj) : Prop := ∀ y x M X, args = [y, x] → MR h y M → LR h x X → vOk 0 M X → NG h (h.plus own) v (nxtL M X)
noncomputable def R19 : CallF := addX tbl R18 25 Good25
theorem s19 : Sound Go.Proofs.Try.prog R19 := Sound.addX follows ok s18 (by decide) Good25
theorem mul_bd {x y : Int} {X Y : Int} (h1 : 0 ≤ x) (h2 : x ≤ X) (h3 : 0 ≤ y) (h4 : y ≤ Y) : 0 ≤ x * y ∧ x * y ≤ X * Y :=
  ⟨Int.mul_nonneg h1 h3, Int.mul_le_mul h2 h4 h3 (by omega)⟩
def loI (Y X : Nat → Int) : Nat → Nat
  | 0 => 0
  | i + 1 => if Y i * X (loI Y X i) < Y (loI Y X i) * X i then i else loI Y X i
def hiI (Y X : Nat → Int) : Nat → Nat
  | 0 => 0
  | i + 1 => if Y (hiI Y X i) * X i < Y i * X (hiI Y X i) then i else hiI Y X i
section
variable {Y X : Nat → Int} {n : Nat}
end
section
variable {M : List (List Int)} {X : List Int} {x y : AV}
def bdV (M : List (List Int)) (X : List Int) : AV × AV := (let Y := fun i => nxv M X i M.length; let Z := fun i => X.getD i 0; let l := loI Y Z M.length; let h := hiI Y Z M.length; (fr (Y l) (Z l), fr (Y h) (Z h)))
end
end Go.Proofs.Ytjeemgaoonapgaa.Ev
set_option linter.unusedVariables false
set_option linter.unusedSimpArgs false
namespace Go.Proofs.Ytjeemgaoonapgaa.Ev
open Go Go.AEv
def Good20 (args : List AV) (h : Heap) (v : AV) (own : List AObj) : Prop := ∀ y x M X, args = [y, x] → MR h y M → LR h x X → own = [] ∧ (vOk 1 M X → v = .tup [(bdV M X).1, (bdV M X).2, G 0]) ∧ (¬ vOk 1 M X → v = .tup [.agg [G 0, G 0], .agg [G 0, G 0], G 2])
def Good26 (args : List AV) (h : Heap) (v : AV) (own : List AObj) : Prop := ∀ y x M X, args = [y, x] → MR h y M → LR h x X → vOk 1 M X → own = [] ∧ v = .tup [(bdV M X).1, (bdV M X).2]
noncomputable def R20 : CallF := addX tbl R19 20 Good20
theorem s20 : Sound Go.Proofs.Try.prog R20 := Sound.addX follows ok s19 (by decide) Good20
noncomputable def R21 : CallF := addX tbl R20 26 Good26
theorem s21 : Sound Go.Proofs.Try.prog R21 := Sound.addX follows ok s20 (by decide) Good26
theorem addI_ne {I : CallF} {f g : Nat} {spec : SpecF} (hg : g ≠ f) (args : List AV) (h : Heap) : addI I f spec g args h = I g args h := if_neg hg
theorem addV_ne {I : CallF} {f g : Nat} {spec : SpecV} (hg : g ≠ f) (args : List AV) (h : Heap) : addV I f spec g args h = I g args h := if_neg hg
theorem k23_r : ∀ h, R21 23 [] h = some (.bool true, [], false) := fun h => by
  simp (disch := decide) only [R21, R20, R19, R18, R17, R16, R15, R14, R13, R12, R11, R10, R9, R8, R7, R6, R5, R4, addI_ne, addX_ne, addV_ne]
  exact k23 h
end Go.Proofs.Ytjeemgaoonapgaa.Ev
set_option linter.unusedVariables false
set_option linter.unusedSimpArgs false
namespace Go.Proofs.Ytjeemgaoonapgaa.Ev
open Go Go.AEv
attribute [local simp] evFunc initS evOps_c evTrim_c evSkip_c evExit_c evRet_c evSeq_c evCond_c evBlock_c evDraw_c runOps_n runOps_c exec_n exec_g pure1_c act AOpd.ev T.get T.set T.put evBin evUn forceT_eq forceV_eq forceL_eq evRess evRes one keep runFP_n runFP_c app_none AV.flats AV.flat came_some List.getElem?_cons_zero List.getElem?_cons_succ beqT wrapI idxI tdivI tmodI decT decF ibT ibF inT inF evScope_c if_pos if_neg Cm_some thenW_n thenW_e thenW_r blkW_n blkW_e blkW_r goI kn putAt AV.cells fillA loadA takeA mk Eff.isAll Eff.isNone Eff.commutes Eff.spares okPair apart eqAgg fits LK.fits allEq aveq eqk mmA
def mdZ (x n : Int) : Int := (x % 18446744073709551616) % n
theorem mdZ_bd (x : Int) {n : Int} (h : 0 < n) : 0 ≤ mdZ x n ∧ mdZ x n < n := ⟨Int.emod_nonneg _ (by omega), Int.emod_lt_of_pos _ h⟩
def spec27 : SpecV
  | [.int .i64 x, .int .i64 n] => if 0 < n ∧ n < 9223372036854775808 then some (G (mdZ x n)) else none
  | _ => none
theorem wrap_u64 (n : Int) : IntKind.u64.wrap n = n % 18446744073709551616 := by
  unfold IntKind.wrap IntKind.bits IntKind.signed
  simp
theorem c27_ok (J : CallF) (hJ : ∀ a h, J 27 a h = none) (x n : Int) (h1 : 0 < n) (h2 : n < 9223372036854775808) : CallsTo tbl J 27 [G x, G n] e0 (G (mdZ x n), [], false) := by
  unfold mdZ
  refine CallsTo.plain (cf := c27) (h' := frameOf e0) (by decide) rfl (hJ _ _) rfl rfl ?_
  have w : n % 18446744073709551616 = n := Int.emod_eq_of_lt (by omega) (by omega)
  have hz : ¬ n = 0 := by omega
  have hm : (x % 18446744073709551616).tmod n = (x % 18446744073709551616) % n := Int.tmod_eq_emod_of_nonneg (Int.emod_nonneg _ (by decide))
  have a1 := Int.emod_nonneg (x % 18446744073709551616) hz
  have a2 := Int.emod_lt_of_pos (x % 18446744073709551616) h1
  simp [c27, c27_o0, c27_o1, wrap_u64, w, hz, hm, wrapI ((x % 18446744073709551616) % n) (by omega) (by omega)]
noncomputable def T1 : CallF := addV R21 27 spec27
theorem t1 : Sound Go.Proofs.Try.prog T1 := Sound.addV follows ok s21 (by decide) (fun args v h => by
  unfold spec27 at h
  split at h
  · split at h
    · rename_i hn
      simp only [Option.some.injEq] at h; subst h
      exact c27_ok R21 (fun _ _ => by
        simp (disch := decide) only [R21, R20, R19, R18, R17, R16, R15, R14, R13, R12, R11, R10, R9, R8, R7, R6, R5, R4, R3, R2, R1, addI_ne, addX_ne, addV_ne]; rfl) _ _ hn.1 hn.2
    · cases h
  · cases h)
abbrev K27 (J : CallF) : Prop := ∀ (x n : Int) (h : Heap), 0 < n → n < 9223372036854775808 → J 27 [G x, G n] h = some (G (mdZ x n), [], false)
theorem k27 : K27 T1 := fun x n h h1 h2 => by simp [T1, addV, spec27, h1, h2]
def lessOk (a b c d : Int) : Prop := (0 ≤ a ∧ a ≤ 7200000000) ∧ (0 ≤ b ∧ b ≤ 1000000000) ∧ (0 ≤ c ∧ c ≤ 7200000000) ∧ (0 ≤ d ∧ d ≤ 1000000000)
instance (a b c d : Int) : Decidable (lessOk a b c d) := by unfold lessOk; infer_instance
def spec29 : SpecV
  | [.agg [.int .i64 a, .int .i64 b], .agg [.int .i64 c, .int .i64 d]] => if lessOk a b c d then some (.bool (decide (a * d < c * b))) else none
  | _ => none
theorem c29_ok (J : CallF) (hJ : ∀ a h, J 29 a h = none) (a b c d : Int) (hl : lessOk a b c d) : CallsTo tbl J 29 [.agg [G a, G b], .agg [G c, G d]] e0 (.bool (decide (a * d < c * b)), [], false) := by
  obtain ⟨h1, h2, h3, h4⟩ := hl
  have m1 := mul_bd h1.1 h1.2 h4.1 h4.2
  have m2 := mul_bd h3.1 h3.2 h2.1 h2.2
  refine CallsTo.plain (cf := c29) (h' := ⟨e0.get, 0, [.cells 0 2 [G a, G b], .cells 0 2 [G c, G d]]⟩) (by decide) rfl (hJ _ _) rfl rfl ?_
  simp [c29, c29_o0, c29_o1, mk, frameOf, Heap.size, e0, Eff.app, Heap.get, AV.cells, loadA, takeA, wrapI (a * d) (by omega) (by omega), wrapI (c * b) (by omega) (by omega)]
noncomputable def T2 : CallF := addV T1 29 spec29
theorem t2 : Sound Go.Proofs.Try.prog T2 := Sound.addV follows ok t1 (by decide) (fun args v h => by
  unfold spec29 at h
  split at h
  · split at h
    · rename_i hn
      simp only [Option.some.injEq] at h; subst h
      exact c29_ok T1 (fun _ _ => by
        simp (disch := decide) only [T1, R21, R20, R19, R18, R17, R16, R15, R14, R13, R12, R11, R10, R9, R8, R7, R6, R5, R4, R3, R2, R1, addI_ne, addX_ne, addV_ne]; rfl) _ _ _ _ hn
    · cases h
  · cases h)
theorem k27_2 : K27 T2 := fun x n h h1 h2 => by
  simp (disch := decide) only [T2, addV_ne]
  exact k27 x n h h1 h2
section
variable {n : Nat} {most : Int} {M : List (List Int)}
abbrev L28a : List Path := [[], [false], [true], [false, false, false], [true, false, false], [false, true, false], [true, true, false]]
abbrev L28b : List Path := [[], [false], [true], [false, false, false], [true, false, false]]
structure Row (h H : Heap) (n : Nat) (most : Int) : Prop where
  k : Kp (fun _ => False) h H
  g : ∃ L : List Int, L.length = n ∧ allIn 0 most L = true ∧ H.get h.size = .cells 1 n (gs L)
theorem allIn_set {lo hi : Int} {A : List Int} (h : allIn lo hi A = true) (i : Nat) {x : Int} (hx : lo ≤ x ∧ x ≤ hi) : allIn lo hi (A.set i x) = true := by
  unfold allIn at h ⊢
  rw [List.all_eq_true] at h ⊢
  intro a ha
  rcases List.mem_or_eq_of_mem_set ha with q | q
  · exact h a q
  · subst q; simpa using hx
theorem Row.set {h H : Heap} (r : Row h H n most) {i : Nat} (hi : i < n) {x : Int} (hx : 0 ≤ x ∧ x ≤ most) : ∃ H', Eff.app (.put h.size n i [G x]) H = some H' ∧ Row h H' n most := by
  obtain ⟨L, l1, l2, g⟩ := r.g
  have hN : H.N ≤ h.size := by rw [r.k.N]; unfold Heap.size; omega
  refine ⟨_, put_gen H h.size n i 1 (gs L) [G x] hN g (by simp [l1]; omega), ⟨r.k.updn _ _ hN (Nat.le_refl _), L.set i x, by simp [l1], allIn_set l2 i hx, ?_⟩⟩
  rw [upd_same _ _ _ hN (get_lt g (by simp))]
  simp [putAt, gs]
theorem n28_step (J : CallF) (k27 : K27 J) {h H : Heap} {b v rb rv i j m : Nat} {cs cr : List AV} {w : AV} {x : Int} (r : Row h H n most) (g : H.get b = .cells 1 v cs) (er : cs[i]? = some (.slice rb 0 m rv)) (gr : H.get rb = .cells 1 rv cr) (ex : cr[j]? = some (G x)) (N : Nat) (hi : i < N) (hj : j < n) (hjm : j < m) (h8 : n ≤ 8) (hm : 0 ≤ most ∧ most ≤ 9) (hiN : i < 8) :
    Tr tbl J (.trim L28a c28_b0) (fun s h' => s.get [] = .slice b 0 N v ∧ s.get [false] = G n ∧ s.get [true] = G most ∧ s.get [false, false, false] = w ∧ s.get [true, false, false] = G i ∧ s.get [false, true, false] = .slice h.size 0 n n ∧ s.get [true, true, false] = G j ∧ h' = H) .normal
      (fun s h' => s.get [] = .slice b 0 N v ∧ s.get [false] = G n ∧ s.get [true] = G most ∧ s.get [false, false, false] = w ∧ s.get [true, false, false] = G i ∧ s.get [false, true, false] = .slice h.size 0 n n ∧ s.get [true, true, false] = G ((j + 1 : Nat) : Int) ∧ Row h h' n most) := by
  have er' : ∀ h : i < cs.length, cs[i] = .slice rb 0 m rv := fun h => by rw [List.getElem?_eq_getElem h] at er; exact Option.some.inj er
  have ex' : ∀ h : j < cr.length, cr[j] = G x := fun h => by rw [List.getElem?_eq_getElem h] at ex; exact Option.some.inj ex
  have kk := fun h => k27 x (most + 1) h (by omega) (by omega)
  have hmd := mdZ_bd x (show 0 < most + 1 by omega)
  by_cases c : x < 0
  · obtain ⟨H', p, r'⟩ := r.set hj (x := mdZ x (most + 1)) (by omega)
    have t : Tr tbl J ((.trim L28a c28_b0)) (fun s h' => s.get [] = .slice b 0 N v ∧ s.get [false] = G n ∧ s.get [true] = G most ∧ s.get [false, false, false] = w ∧ s.get [true, false, false] = G i ∧ s.get [false, true, false] = .slice h.size 0 n n ∧ s.get [true, true, false] = G j ∧ h' = H) .normal (fun s h' => s.get [] = .slice b 0 N v ∧ s.get [false] = G n ∧ s.get [true] = G most ∧ s.get [false, false, false] = w ∧ s.get [true, false, false] = G i ∧ s.get [false, true, false] = .slice h.size 0 n n ∧ s.get [true, true, false] = G ((j + 1 : Nat) : Int) ∧ h' = H') := Tr.region fun s h hp => by
      obtain ⟨g0, g1, g2, g3, g4, g5, g6, rfl⟩ := hp
      simp (disch := first|omega|exact zE rfl|exact zO|exact zL rfl) [c28_b0, c28_o6, c28_o7, c28_o8, c28_o9, c28_o10, c28_o11, zG, g0, g1, g2, g3, g4, g5, g6, g, gr, er, er', ex, ex', kk, p, c]
    exact Tr.post (fun s h q => ⟨q.1, q.2.1, q.2.2.1, q.2.2.2.1, q.2.2.2.2.1, q.2.2.2.2.2.1, q.2.2.2.2.2.2.1, by rw [q.2.2.2.2.2.2.2]; exact r'⟩) t
  · by_cases c2 : most < x
    · obtain ⟨H', p, r'⟩ := r.set hj (x := mdZ x (most + 1)) (by omega)
      have t : Tr tbl J ((.trim L28a c28_b0)) (fun s h' => s.get [] = .slice b 0 N v ∧ s.get [false] = G n ∧ s.get [true] = G most ∧ s.get [false, false, false] = w ∧ s.get [true, false, false] = G i ∧ s.get [false, true, false] = .slice h.size 0 n n ∧ s.get [true, true, false] = G j ∧ h' = H) .normal (fun s h' => s.get [] = .slice b 0 N v ∧ s.get [false] = G n ∧ s.get [true] = G most ∧ s.get [false, false, false] = w ∧ s.get [true, false, false] = G i ∧ s.get [false, true, false] = .slice h.size 0 n n ∧ s.get [true, true, false] = G ((j + 1 : Nat) : Int) ∧ h' = H') := Tr.region fun s h hp => by
        obtain ⟨g0, g1, g2, g3, g4, g5, g6, rfl⟩ := hp
        simp (disch := first|omega|exact zE rfl|exact zO|exact zL rfl) [c28_b0, c28_o6, c28_o7, c28_o8, c28_o9, c28_o10, c28_o11, zG, g0, g1, g2, g3, g4, g5, g6, g, gr, er, er', ex, ex', kk, p, c, c2]
      exact Tr.post (fun s h q => ⟨q.1, q.2.1, q.2.2.1, q.2.2.2.1, q.2.2.2.2.1, q.2.2.2.2.2.1, q.2.2.2.2.2.2.1, by rw [q.2.2.2.2.2.2.2]; exact r'⟩) t
    · obtain ⟨H', p, r'⟩ := r.set hj (x := x) (by omega)
      have t : Tr tbl J ((.trim L28a c28_b0)) (fun s h' => s.get [] = .slice b 0 N v ∧ s.get [false] = G n ∧ s.get [true] = G most ∧ s.get [false, false, false] = w ∧ s.get [true, false, false] = G i ∧ s.get [false, true, false] = .slice h.size 0 n n ∧ s.get [true, true, false] = G j ∧ h' = H) .normal (fun s h' => s.get [] = .slice b 0 N v ∧ s.get [false] = G n ∧ s.get [true] = G most ∧ s.get [false, false, false] = w ∧ s.get [true, false, false] = G i ∧ s.get [false, true, false] = .slice h.size 0 n n ∧ s.get [true, true, false] = G ((j + 1 : Nat) : Int) ∧ h' = H') := Tr.region fun s h hp => by
        obtain ⟨g0, g1, g2, g3, g4, g5, g6, rfl⟩ := hp
        simp (disch := first|omega|exact zE rfl|exact zO|exact zL rfl) [c28_b0, c28_o6, c28_o7, c28_o8, c28_o9, c28_o10, c28_o11, zG, g0, g1, g2, g3, g4, g5, g6, g, gr, er, er', ex, ex', p, c, c2]
      exact Tr.post (fun s h q => ⟨q.1, q.2.1, q.2.2.1, q.2.2.2.1, q.2.2.2.2.1, q.2.2.2.2.2.1, q.2.2.2.2.2.2.1, by rw [q.2.2.2.2.2.2.2]; exact r'⟩) t
def tkn (M : List (List Int)) (n i : Nat) : Nat := min n (M.getD i []).length
theorem n28_end (J : CallF) {h H : Heap} {y w : AV} {i : Nat} (hy : MR H y M) (h8 : n ≤ 8) (hi : i < n) :
    Tr tbl J (.trim L28a c28_b0) (fun s h' => s.get [] = y ∧ s.get [false] = G n ∧ s.get [true] = G most ∧ s.get [false, false, false] = w ∧ s.get [true, false, false] = G i ∧ s.get [false, true, false] = .slice h.size 0 n n ∧ s.get [true, true, false] = G (tkn M n i) ∧ h' = H) (.exit 2)
      (fun s h' => s.get [] = y ∧ s.get [false] = G n ∧ s.get [true] = G most ∧ s.get [false, false, false] = w ∧ s.get [true, false, false] = G i ∧ s.get [false, true, false] = .slice h.size 0 n n ∧ h' = H) := by
  by_cases hM : i < M.length
  · obtain ⟨b, v, cs, r, rfl, g, er, hr⟩ := hy.row hM
    have er' : ∀ h : i < cs.length, cs[i] = r := fun h => by rw [List.getElem?_eq_getElem h] at er; exact Option.some.inj er
    have hs := LR.sl hr
    unfold tkn
    generalize (M.getD i []).length = m at *
    generalize M.length = N at *
    by_cases c : m < n
    · rw [Nat.min_eq_right (by omega)]
      have t : Tr tbl J ((.trim L28a c28_b0)) (fun s h' => s.get [] = .slice b 0 N v ∧ s.get [false] = G n ∧ s.get [true] = G most ∧ s.get [false, false, false] = w ∧ s.get [true, false, false] = G i ∧ s.get [false, true, false] = .slice h.size 0 n n ∧ s.get [true, true, false] = G m ∧ h' = H) (.exit 2) (fun s h' => s.get [] = .slice b 0 N v ∧ s.get [false] = G n ∧ s.get [true] = G most ∧ s.get [false, false, false] = w ∧ s.get [true, false, false] = G i ∧ s.get [false, true, false] = .slice h.size 0 n n ∧ h' = H) := Tr.region fun s h hp => by
        obtain ⟨g0, g1, g2, g3, g4, g5, g6, rfl⟩ := hp
        rcases hs with ⟨rfl, rfl⟩ | ⟨rfl, rfl⟩ | ⟨b', v', rfl⟩ <;> simp (disch := first|omega|exact zE rfl|exact zO|exact zL rfl) [c28_b0, c28_o6, zG, g0, g1, g2, g3, g4, g5, g6, g, er, er']
      exact t
    · rw [Nat.min_eq_left (by omega)]
      have t : Tr tbl J ((.trim L28a c28_b0)) (fun s h' => s.get [] = .slice b 0 N v ∧ s.get [false] = G n ∧ s.get [true] = G most ∧ s.get [false, false, false] = w ∧ s.get [true, false, false] = G i ∧ s.get [false, true, false] = .slice h.size 0 n n ∧ s.get [true, true, false] = G n ∧ h' = H) (.exit 2) (fun s h' => s.get [] = .slice b 0 N v ∧ s.get [false] = G n ∧ s.get [true] = G most ∧ s.get [false, false, false] = w ∧ s.get [true, false, false] = G i ∧ s.get [false, true, false] = .slice h.size 0 n n ∧ h' = H) := Tr.region fun s h hp => by
        obtain ⟨g0, g1, g2, g3, g4, g5, g6, rfl⟩ := hp
        simp (disch := first|omega|exact zE rfl|exact zO|exact zL rfl) [c28_b0, c28_o6, zG, g0, g1, g2, g3, g4, g5, g6]
      exact t
  · have h0 : tkn M n i = 0 := by
      unfold tkn
      rw [List.getD_eq_getElem?_getD, List.getElem?_eq_none (by omega)]
      simp
    rw [h0]
    have hs := hy.sl
    generalize M.length = N at *
    have t : Tr tbl J ((.trim L28a c28_b0)) (fun s h' => s.get [] = y ∧ s.get [false] = G n ∧ s.get [true] = G most ∧ s.get [false, false, false] = w ∧ s.get [true, false, false] = G i ∧ s.get [false, true, false] = .slice h.size 0 n n ∧ s.get [true, true, false] = G ((0 : Nat) : Int) ∧ h' = H) (.exit 2) (fun s h' => s.get [] = y ∧ s.get [false] = G n ∧ s.get [true] = G most ∧ s.get [false, false, false] = w ∧ s.get [true, false, false] = G i ∧ s.get [false, true, false] = .slice h.size 0 n n ∧ h' = H) := Tr.region fun s h hp => by
      obtain ⟨g0, g1, g2, g3, g4, g5, g6, rfl⟩ := hp
      rcases hs with ⟨rfl, rfl⟩ | ⟨rfl, rfl⟩ | ⟨b', v', rfl⟩ <;> simp (disch := first|omega|exact zE rfl|exact zO|exact zL rfl) [c28_b0, c28_o6, zG, g0, g1, g2, g3, g4, g5, g6]
    exact t
theorem n28_in (J : CallF) (k27 : K27 J) {h H : Heap} {y w : AV} {i : Nat} (hy : MR h y M) (r : Row h H n most) (h8 : n ≤ 8) (hm : 0 ≤ most ∧ most ≤ 9) (hi : i < n) :
    Tr tbl J (.seq c28_o5 (.block 2 c28_l0)) (fun s h' => s.get [] = y ∧ s.get [false] = G n ∧ s.get [true] = G most ∧ s.get [false, false, false] = w ∧ s.get [true, false, false] = G i ∧ s.get [false, true, false] = .slice h.size 0 n n ∧ h' = H) .normal
      (fun s h' => s.get [] = y ∧ s.get [false] = G n ∧ s.get [true] = G most ∧ s.get [false, false, false] = w ∧ s.get [true, false, false] = G i ∧ s.get [false, true, false] = .slice h.size 0 n n ∧ Row h h' n most) := by
  have t0 : Tr tbl J (c28_o5) (fun s h' => s.get [] = y ∧ s.get [false] = G n ∧ s.get [true] = G most ∧ s.get [false, false, false] = w ∧ s.get [true, false, false] = G i ∧ s.get [false, true, false] = .slice h.size 0 n n ∧ h' = H) .normal (fun s h' => s.get [] = y ∧ s.get [false] = G n ∧ s.get [true] = G most ∧ s.get [false, false, false] = w ∧ s.get [true, false, false] = G i ∧ s.get [false, true, false] = .slice h.size 0 n n ∧ s.get [true, true, false] = G ((0 : Nat) : Int) ∧ h' = H) := Tr.region fun s h hp => by
    obtain ⟨g0, g1, g2, g3, g4, g5, rfl⟩ := hp
    simp (disch := first|omega|exact zE rfl|exact zO|exact zL rfl) [c28_o5, zG, g0, g1, g2, g3, g4, g5]
  have tl := Tr.rounds (tbl := tbl) (I := J) (live := L28a) (c := c28_b0) (e := .exit 2) (M := tkn M n i)
    (P := fun j s h' => s.get [] = y ∧ s.get [false] = G n ∧ s.get [true] = G most ∧ s.get [false, false, false] = w ∧ s.get [true, false, false] = G i ∧ s.get [false, true, false] = .slice h.size 0 n n ∧ s.get [true, true, false] = G j ∧ Row h h' n most)
    (Q := fun s h' => s.get [] = y ∧ s.get [false] = G n ∧ s.get [true] = G most ∧ s.get [false, false, false] = w ∧ s.get [true, false, false] = G i ∧ s.get [false, true, false] = .slice h.size 0 n n ∧ Row h h' n most)
    (fun j hj => Tr.fix (F := fun H => Row h H n most) (P' := fun H s h' => s.get [] = y ∧ s.get [false] = G n ∧ s.get [true] = G most ∧ s.get [false, false, false] = w ∧ s.get [true, false, false] = G i ∧ s.get [false, true, false] = .slice h.size 0 n n ∧ s.get [true, true, false] = G j ∧ h' = H)
      (fun H r => by
        have hj2 : j < n ∧ j < (M.getD i []).length := by unfold tkn at hj; omega
        have hM : i < M.length := by
          apply Nat.lt_of_not_le
          intro q
          have := hj2.2
          rw [List.getD_eq_getElem?_getD, List.getElem?_eq_none (by omega)] at this
          simp at this
        obtain ⟨b, v, cs, ro, rfl, g, er, hr⟩ := (hy.kp r.k).row hM
        rcases hr.cases with ⟨_, q⟩ | ⟨_, q⟩ | ⟨rb, rv, rfl, gr⟩
        · rw [q] at hj2; simp at hj2
        · rw [q] at hj2; simp at hj2
        · exact n28_step J k27 (x := (M.getD i []).getD j 0) r g er gr (by rw [lf_of (M.getD i []), gl_at _ hj2.2, lf_getD _ hj2.2]) M.length hM hj2.1 hj2.2 h8 hm (by omega)) (fun s h' q => ⟨q.2.2.2.2.2.2.2, q.1, q.2.1, q.2.2.1, q.2.2.2.1, q.2.2.2.2.1, q.2.2.2.2.2.1, q.2.2.2.2.2.2.1, rfl⟩))
    (Tr.fix (F := fun H => Row h H n most) (P' := fun H s h' => s.get [] = y ∧ s.get [false] = G n ∧ s.get [true] = G most ∧ s.get [false, false, false] = w ∧ s.get [true, false, false] = G i ∧ s.get [false, true, false] = .slice h.size 0 n n ∧ s.get [true, true, false] = G (tkn M n i) ∧ h' = H)
      (fun H r => Tr.post (fun s h' q => ⟨q.1, q.2.1, q.2.2.1, q.2.2.2.1, q.2.2.2.2.1, q.2.2.2.2.2.1, by rw [q.2.2.2.2.2.2]; exact r⟩) (n28_end J (hy.kp r.k) h8 hi)) (fun s h' q => ⟨q.2.2.2.2.2.2.2, q.1, q.2.1, q.2.2.1, q.2.2.2.1, q.2.2.2.2.1, q.2.2.2.2.2.1, q.2.2.2.2.2.2.1, rfl⟩))
    (by simp) 0 (by omega)
  exact Tr.seq t0 (Tr.block (Tr.pre (fun s h' q => ⟨q.1, q.2.1, q.2.2.1, q.2.2.2.1, q.2.2.2.2.1, q.2.2.2.2.2.1, q.2.2.2.2.2.2.1, by rw [q.2.2.2.2.2.2.2]; exact r⟩) tl))
def sqM (n : Nat) (most : Int) (N : List (List Int)) : Prop := ∀ l ∈ N, l.length = n ∧ allIn 0 most l = true
theorem n28_row (J : CallF) (k27 : K27 J) {H0 H : Heap} {y w : AV} {i : Nat} {N : List (List Int)} (hy : MR H0 y M) (tg : TG H0 H w N) (hN : N.length = i) (hq : sqM n most N) (h8 : n ≤ 8) (hm : 0 ≤ most ∧ most ≤ 9) (hi : i < n) :
    Tr tbl J (.trim L28b c28_b1) (fun s h => s.get [] = y ∧ s.get [false] = G n ∧ s.get [true] = G most ∧ s.get [false, false, false] = w ∧ s.get [true, false, false] = G i ∧ h = H) .normal
      (fun s h' => ∃ w' N', (s.get [] = y ∧ s.get [false] = G n ∧ s.get [true] = G most ∧ s.get [false, false, false] = w' ∧ s.get [true, false, false] = G ((i + 1 : Nat) : Int)) ∧ TG H0 h' w' N' ∧ N'.length = i + 1 ∧ sqM n most N') := by
  have ta : Tr tbl J ((.trim L28b (.seq c28_o3 (.cond (.s [true, true, true]) .skip (.exit 0))))) (fun s h => s.get [] = y ∧ s.get [false] = G n ∧ s.get [true] = G most ∧ s.get [false, false, false] = w ∧ s.get [true, false, false] = G i ∧ h = H) .normal (fun s h => s.get [] = y ∧ s.get [false] = G n ∧ s.get [true] = G most ∧ s.get [false, false, false] = w ∧ s.get [true, false, false] = G i ∧ h = H) := Tr.region fun s h hp => by
    obtain ⟨g0, g1, g2, g3, g4, rfl⟩ := hp
    simp (disch := first|omega|exact zE rfl|exact zO|exact zL rfl) [c28_o3, zG, g0, g1, g2, g3, g4]
  have m1 := fun h => mkSl_ok h 8 (AV.int .i64 0) n n rfl (by omega)
  have tb : Tr tbl J (c28_o4) (fun s h => s.get [] = y ∧ s.get [false] = G n ∧ s.get [true] = G most ∧ s.get [false, false, false] = w ∧ s.get [true, false, false] = G i ∧ h = H) .normal (fun s h => s.get [] = y ∧ s.get [false] = G n ∧ s.get [true] = G most ∧ s.get [false, false, false] = w ∧ s.get [true, false, false] = G i ∧ s.get [false, true, false] = .slice H.size 0 n n ∧ h = H.plus [.cells 1 n (List.replicate n (.int .i64 0))]) := Tr.region fun s h hp => by
    obtain ⟨g0, g1, g2, g3, g4, rfl⟩ := hp
    simp (disch := first|omega|exact zE rfl|exact zO|exact zL rfl) [-act, -List.reduceReplicate, c28_o4, zG, g0, g1, g2, g3, g4, act_mkSl, act_move, m1]
  have r0 : Row H (H.plus [.cells 1 n (List.replicate n (.int .i64 0))]) n most := by
    refine ⟨Kp.plus _ _, lf (fun _ => 0) n, lf_len _ _, ?_, ?_⟩
    · unfold allIn
      rw [List.all_eq_true]
      intro a ha
      obtain ⟨_, _, rfl⟩ := List.mem_map.1 ha
      simpa using hm.1
    · rw [← gl_rep]; exact plus_at0 _ _ _ _ rfl
  have tc := n28_in J k27 (w := w) (hy.kp tg.k) r0 h8 hm hi
  refine Tr.trim_seq ta (Tr.seq (Tr.block_out (Tr.seq tb (Tr.seq tc (Q := fun s h' => ∃ w' N', (s.get [] = y ∧ s.get [false] = G n ∧ s.get [true] = G most ∧ s.get [false, false, false] = w' ∧ s.get [true, false, false] = G i) ∧ TG H0 h' w' N' ∧ N'.length = i + 1 ∧ sqM n most N') ?_)) (by simp)) ?_)
  · refine Tr.fix (F := fun H2 => Row H H2 n most) (P' := fun H2 s h' => s.get [] = y ∧ s.get [false] = G n ∧ s.get [true] = G most ∧ s.get [false, false, false] = w ∧ s.get [true, false, false] = G i ∧ s.get [false, true, false] = .slice H.size 0 n n ∧ h' = H2) (fun H2 r => ?_) (fun s h' q => ⟨q.2.2.2.2.2.2, q.1, q.2.1, q.2.2.1, q.2.2.2.1, q.2.2.2.2.1, q.2.2.2.2.2.1, rfl⟩)
    obtain ⟨L, l1, l2, g⟩ := r.g
    have hL : listOf H2 (.slice H.size 0 n n) = some L := listOf_cells g l1
    obtain ⟨cs, lv, _⟩ := tg.r
    obtain ⟨w', e, H3, q1, q2, q3, q4⟩ := (tg.kp r.k).app H2.size hL (fun q hq => by
      cases hq
      exact ⟨fun e => by have := lv.lt e; omega, tg.k.size⟩) (by rw [hN]; omega)
    have f1 : (H2.plus [.cells 1 1 [.slice H.size 0 n n]]).get H2.size = .cells 1 1 [.slice H.size 0 n n] := plus_at0 _ _ _ _ rfl
    generalize H.size = rb at *
    have t : Tr tbl J (c28_o12) (fun s h => s.get [] = y ∧ s.get [false] = G n ∧ s.get [true] = G most ∧ s.get [false, false, false] = w ∧ s.get [true, false, false] = G i ∧ s.get [false, true, false] = .slice rb 0 n n ∧ h = H2) .normal (fun s h => s.get [] = y ∧ s.get [false] = G n ∧ s.get [true] = G most ∧ s.get [false, false, false] = w' ∧ s.get [true, false, false] = G i ∧ h = H3) := Tr.region fun s h hp => by
      obtain ⟨g0, g1, g2, g3, g4, g5, rfl⟩ := hp
      simp (disch := first|omega|exact zE rfl|exact zO|exact zL rfl) [c28_o12, zG, g0, g1, g2, g3, g4, g5, elems, rdOf, f1, q1, q2]
    refine Tr.post (fun s h' q => ⟨w', N ++ [L], ⟨q.1, q.2.1, q.2.2.1, q.2.2.2.1, q.2.2.2.2.1⟩, by rw [q.2.2.2.2.2]; exact q3, by simp [hN], fun l hl => ?_⟩) t
    rcases List.mem_append.1 hl with a | a
    · exact hq l a
    · obtain rfl : l = L := by simpa using a
      exact ⟨l1, l2⟩
  · refine Tr.exx fun w' => Tr.exx fun N' => Tr.fix (F := fun H2 => TG H0 H2 w' N' ∧ N'.length = i + 1 ∧ sqM n most N') (P' := fun H2 s h' => s.get [] = y ∧ s.get [false] = G n ∧ s.get [true] = G most ∧ s.get [false, false, false] = w' ∧ s.get [true, false, false] = G i ∧ h' = H2) (fun H2 r => ?_) (fun s h' q => ⟨q.2, q.1.1, q.1.2.1, q.1.2.2.1, q.1.2.2.2.1, q.1.2.2.2.2, rfl⟩)
    have t : Tr tbl J (c28_o13) (fun s h => s.get [] = y ∧ s.get [false] = G n ∧ s.get [true] = G most ∧ s.get [false, false, false] = w' ∧ s.get [true, false, false] = G i ∧ h = H2) .normal (fun s h => s.get [] = y ∧ s.get [false] = G n ∧ s.get [true] = G most ∧ s.get [false, false, false] = w' ∧ s.get [true, false, false] = G ((i + 1 : Nat) : Int) ∧ h = H2) := Tr.region fun s h hp => by
      obtain ⟨g0, g1, g2, g3, g4, rfl⟩ := hp
      simp (disch := first|omega|exact zE rfl|exact zO|exact zL rfl) [c28_o13, zG, g0, g1, g2, g3, g4]
    exact Tr.post (fun s h' q => ⟨w', N', ⟨q.1, q.2.1, q.2.2.1, q.2.2.2.1, q.2.2.2.2.1⟩, by rw [q.2.2.2.2.2]; exact r⟩) t
theorem c28_ok (J : CallF) (k27 : K27 J) (hJ : ∀ a h, J 28 a h = none) (h : Heap) {y : AV} (hy : MR h y M) (h8 : n ≤ 8) (hm : 0 ≤ most ∧ most ≤ 9) :
    ∃ v own, CallsTo tbl J 28 [y, G n, G most] h (v, own, false) ∧ ∃ N, TG h (h.plus own) v N ∧ N.length = n ∧ sqM n most N := by
  refine Tr.fny (cf := c28) (e := .ret) (s := T.set (T.set (T.set .leaf [] y) [false] (G n)) [true] (G most)) (by decide) rfl (hJ _ _) rfl rfl (by simp) ?_
  have hy0 : MR (frameOf h) y M := hy.lo []
  have t0 : Tr tbl J ((.seq c28_o0 c28_o1)) (fun s h' => s = T.set (T.set (T.set .leaf [] y) [false] (G n)) [true] (G most) ∧ h' = frameOf h) .normal (fun s h' => s.get [] = y ∧ s.get [false] = G n ∧ s.get [true] = G most ∧ s.get [false, false, false] = .nils ∧ h' = frameOf h) := Tr.region fun s h hp => by
    obtain ⟨rfl, rfl⟩ := hp
    simp (disch := first|omega|exact zE rfl|exact zO|exact zL rfl) [c28_o0, c28_o1, zG]
  have t00 : Tr tbl J (c28_o2) (fun s h' => s.get [] = y ∧ s.get [false] = G n ∧ s.get [true] = G most ∧ s.get [false, false, false] = .nils ∧ h' = frameOf h) .normal (fun s h' => s.get [] = y ∧ s.get [false] = G n ∧ s.get [true] = G most ∧ s.get [false, false, false] = .nils ∧ s.get [true, false, false] = G ((0 : Nat) : Int) ∧ h' = frameOf h) := Tr.region fun s h hp => by
    obtain ⟨g0, g1, g2, g3, rfl⟩ := hp
    simp (disch := first|omega|exact zE rfl|exact zO|exact zL rfl) [c28_o2, zG, g0, g1, g2, g3]
  have tl := Tr.rounds (tbl := tbl) (I := J) (live := L28b) (c := c28_b1) (e := .exit 0) (M := n)
    (P := fun i s h' => ∃ w N, (s.get [] = y ∧ s.get [false] = G n ∧ s.get [true] = G most ∧ s.get [false, false, false] = w ∧ s.get [true, false, false] = G (i : Nat)) ∧ TG (frameOf h) h' w N ∧ N.length = i ∧ sqM n most N)
    (Q := fun s h' => ∃ w N, (s.get [false, false, false] = w) ∧ TG (frameOf h) h' w N ∧ N.length = n ∧ sqM n most N)
    (fun i hi => Tr.exx fun w => Tr.exx fun N => Tr.fix (F := fun H => TG (frameOf h) H w N ∧ N.length = i ∧ sqM n most N) (P' := fun H s h' => s.get [] = y ∧ s.get [false] = G n ∧ s.get [true] = G most ∧ s.get [false, false, false] = w ∧ s.get [true, false, false] = G (i : Nat) ∧ h' = H)
      (fun H r => n28_row J k27 hy0 r.1 r.2.1 r.2.2 h8 hm hi) (fun s h' q => ⟨q.2, q.1.1, q.1.2.1, q.1.2.2.1, q.1.2.2.2.1, q.1.2.2.2.2, rfl⟩))
    (Tr.exx fun w => Tr.exx fun N => Tr.fix (F := fun H => TG (frameOf h) H w N ∧ N.length = n ∧ sqM n most N) (P' := fun H s h' => s.get [] = y ∧ s.get [false] = G n ∧ s.get [true] = G most ∧ s.get [false, false, false] = w ∧ s.get [true, false, false] = G n ∧ h' = H)
      (fun H r => by
        have t : Tr tbl J ((.trim L28b c28_b1)) (fun s h => s.get [] = y ∧ s.get [false] = G n ∧ s.get [true] = G most ∧ s.get [false, false, false] = w ∧ s.get [true, false, false] = G n ∧ h = H) (.exit 0) (fun s h => s.get [false, false, false] = w ∧ h = H) := Tr.region fun s h hp => by
          obtain ⟨g0, g1, g2, g3, g4, rfl⟩ := hp
          simp (disch := first|omega|exact zE rfl|exact zO|exact zL rfl) [c28_b1, c28_o3, zG, g0, g1, g2, g3, g4]
        exact Tr.post (fun s h' q => ⟨w, N, q.1, by rw [q.2]; exact r⟩) t) (fun s h' q => ⟨q.2, q.1.1, q.1.2.1, q.1.2.2.1, q.1.2.2.2.1, q.1.2.2.2.2, rfl⟩))
    (by simp) 0 (by omega)
  refine Tr.post (Q := fun s h' => ∃ w N, s.get [true, true] = w ∧ TG (frameOf h) h' w N ∧ N.length = n ∧ sqM n most N) ?_ (Tr.app2 t0 (Tr.seq (Tr.seq t00 (Tr.block (Tr.pre ?_ tl))) (Tr.exx fun w => Tr.exx fun N => Tr.fix (F := fun H => TG (frameOf h) H w N ∧ N.length = n ∧ sqM n most N) (P' := fun H s h' => s.get [false, false, false] = w ∧ h' = H) (fun H r => ?_) (fun s h' q => ⟨q.2, q.1, rfl⟩))))
  · rintro s h' ⟨w, N, q1, q2, q3, q4⟩
    refine ⟨[w], by simp [c28, q1], N, ?_, q3, q4⟩
    show TG h (h.plus (if (one [w]).flat = true then [] else h'.own)) w N
    split
    · rename_i hf
      obtain ⟨cs, lv, hl, _⟩ := q2.r
      rcases lv with ⟨e1, rfl⟩ | ⟨b, e1, _, _⟩
      · rw [e1, List.length_eq_zero_iff.1 hl.symm]
        have : h.plus [] = h := by simp [Heap.plus]
        rw [this]; exact TG.nil h
      · rw [e1] at hf; simp [one, AV.flat, AV.flats] at hf
    · exact q2.fr
  · rintro s h' ⟨q1, q2, q3, q4, q5, rfl⟩
    exact ⟨.nils, [], ⟨q1, q2, q3, q4, q5⟩, TG.nil _, rfl, fun l hl => by cases hl⟩
  ·
    have t : Tr tbl J ((.seq c28_o14 .ret)) (fun s h => s.get [false, false, false] = w ∧ h = H) .ret (fun s h => s.get [true, true] = w ∧ h = H) := Tr.region fun s h hp => by
      obtain ⟨g0, rfl⟩ := hp
      simp (disch := first|omega|exact zE rfl|exact zO|exact zL rfl) [c28_o14, zG, g0]
    exact Tr.post (fun s h' q => ⟨w, N, q.1, by rw [q.2]; exact r⟩) t
end
def Good28 (args : List AV) (h : Heap) (v : AV) (own : List AObj) : Prop := ∀ (y : AV) (n : Nat) (most : Int), args = [y, G n, G most] → ∃ N, TG h (h.plus own) v N ∧ N.length = n ∧ sqM n most N
noncomputable def T3 : CallF := addX tbl T2 28 Good28
theorem t3 : Sound Go.Proofs.Try.prog T3 := Sound.addX follows ok t2 (by decide) Good28
abbrev K28 (J : CallF) : Prop := ∀ (h : Heap) (y : AV) (M : List (List Int)) (n : Nat) (most : Int), MR h y M → n ≤ 8 → 0 ≤ most ∧ most ≤ 9 → ∃ v own N, J 28 [y, G n, G most] h = some (v, own, false) ∧ TG h (h.plus own) v N ∧ N.length = n ∧ sqM n most N
theorem k28 : K28 T3 := fun h y M n most hy h8 hm => by
  obtain ⟨v, own, e, q⟩ := c28_ok T2 k27_2 (fun _ _ => by
    simp (disch := decide) only [T2, T1, R21, R20, R19, R18, R17, R16, R15, R14, R13, R12, R11, R10, R9, R8, R7, R6, R5, R4, R3, R2, R1, addI_ne, addX_ne, addV_ne]; rfl) h hy h8 hm
  obtain ⟨v', own', e', g⟩ := addX_some (tbl := tbl) (I := T2) (f := 28) (Good := Good28) (args := [y, G n, G most]) (h := h) ⟨_, _, e, fun y' n' most' hargs => by
    simp only [List.cons.injEq, and_true, AV.int.injEq, true_and, Int.natCast_inj] at hargs
    obtain ⟨rfl, rfl, rfl⟩ := hargs
    exact q⟩
  obtain ⟨N, q⟩ := g y n most rfl
  exact ⟨v', own', N, e', q⟩
theorem sqM_mat {n : Nat} {most : Int} {N : List (List Int)} (h : sqM n most N) (hl : N.length = n) (hn : 1 ≤ n ∧ n ≤ 8) (hm : most ≤ 9) : isMat N = true := by
  unfold isMat
  rw [hl, decide_eq_true hn, Bool.true_and, List.all_eq_true]
  intro l hl'
  obtain ⟨a, b⟩ := h l hl'
  unfold rowOk
  rw [decide_eq_true a, Bool.true_and]
  unfold allIn at b ⊢
  rw [List.all_eq_true] at b ⊢
  intro x hx
  have := b x hx
  simp only [decide_eq_true_eq] at this ⊢
  omega
theorem getI {α : Type} {l : List α} {i : Nat} {x : α} (e : l[i]? = some x) : ∀ h : i < l.length, l[i] = x := fun h => by rw [List.getElem?_eq_getElem h] at e; exact Option.some.inj e
def stF (M : List (List Int)) (x : Nat) : Bool := decide (0 < ent M (x / 8) (x % 8))
theorem ent_out {M : List (List Int)} (hm : isMat M = true) {i j : Nat} (h : M.length ≤ i ∨ M.length ≤ j) : ent M i j = 0 := by
  unfold ent
  by_cases hi : i < M.length
  · have := (isMat_row hm hi).1
    rw [List.getD_eq_getElem?_getD, List.getElem?_eq_none (by omega)]; rfl
  · rw [List.getD_eq_getElem?_getD (l := M), List.getElem?_eq_none (by omega)]; rfl
section
variable {M : List (List Int)}
end
def Good64 (args : List AV) (h : Heap) (v : AV) (own : List AObj) : Prop := ∀ M, isMat M = true → args = [.agg (matC M)] → own = [] ∧ v = .agg (bls (stF M) 64)
noncomputable def T4 : CallF := addX tbl T3 64 Good64
theorem t4 : Sound Go.Proofs.Try.prog T4 := Sound.addX follows ok t3 (by decide) Good64
section
variable {M : List (List Int)}
def dF (M : List (List Int)) (i x : Nat) : Bool := stF M x || decide (x / 8 = x % 8 ∧ x / 8 < i)
def wsh (M : List (List Int)) : Nat → Nat → Bool
  | 0, x => dF M M.length x
  | k + 1, x => wsh M k x || (wsh M k (x / 8 * 8 + k) && wsh M k (k * 8 + x % 8))
def ldF (M : List (List Int)) : Nat → Bool := wsh M M.length
theorem wsh_out (hm : isMat M = true) {k : Nat} : ∀ {x : Nat}, (M.length ≤ x / 8 ∨ M.length ≤ x % 8) → wsh M k x = false := by
  induction k with
  | zero =>
    intro x h
    show dF M M.length x = false
    unfold dF stF
    rw [ent_out hm h, decide_eq_false (show ¬ (x / 8 = x % 8 ∧ x / 8 < M.length) by omega)]; rfl
  | succ k ih =>
    intro x h
    have h8 := isMat_n hm
    show (wsh M k x || (wsh M k (x / 8 * 8 + k) && wsh M k (k * 8 + x % 8))) = false
    rw [ih h, Bool.false_or]
    by_cases hk : k < 8
    · rcases h with h | h
      · rw [ih (x := x / 8 * 8 + k) (by omega), Bool.false_and]
      · rw [ih (x := k * 8 + x % 8) (by omega), Bool.and_false]
    · rcases h with h | h
      · rw [ih (x := x / 8 * 8 + k) (.inl (by omega)), Bool.false_and]
      · rw [ih (x := k * 8 + x % 8) (.inl (by omega)), Bool.and_false]
end
def Good67 (args : List AV) (h : Heap) (v : AV) (own : List AObj) : Prop := ∀ M, isMat M = true → args = [.agg (matC M)] → own = [] ∧ v = .agg (bls (ldF M) 64)
noncomputable def T5 : CallF := addX tbl T4 67 Good67
theorem t5 : Sound Go.Proofs.Try.prog T5 := Sound.addX follows ok t4 (by decide) Good67
def lsm (f : Nat → Bool) (i : Nat) : Nat → Nat
  | 0 => i
  | j + 1 => if f (i * 8 + j) && f (j * 8 + i) then min (lsm f i j) j else lsm f i j
theorem lsm_le (f : Nat → Bool) (i : Nat) : ∀ j, lsm f i j ≤ i
  | 0 => Nat.le_refl _
  | j + 1 => by
    have := lsm_le f i j
    show (if f (i * 8 + j) && f (j * 8 + i) then min (lsm f i j) j else lsm f i j) ≤ i
    split <;> omega
def clN (M : List (List Int)) (i : Nat) : Nat := lsm (ldF M) i i
def clsL (M : List (List Int)) : List Int := lf (fun i => (clN M i : Int)) M.length
section
variable {M : List (List Int)}
end
def Pre62 (M : List (List Int)) (args : List AV) (h : Heap) : Prop := isMat M = true ∧ args = [.agg (matC M)]
def Post62 (M : List (List Int)) (h : Heap) (v : AV) (own : List AObj) : Prop := NG h (h.plus own) v (clsL M)
noncomputable def T6 : CallF := addK tbl T5 62 Pre62 Post62
theorem t6 : Sound Go.Proofs.Try.prog T6 := Sound.addK follows ok t5 (by decide) _ _
def pv (M : List (List Int)) (c : Nat → Bool) (u : Nat) : Nat → Bool
  | 0 => false
  | v + 1 => pv M c u v || (decide (0 < ent M u v) && c v)
def cw (M : List (List Int)) (j : Nat) : Nat → Nat → Bool
  | 0, u => decide (u = j)
  | s + 1, u => pv M (cw M j s) u M.length
def fva (g : Nat → Bool) : Nat → Nat → Nat
  | 0, v => v
  | m + 1, v => if g v then v else fva g m (v + 1)
def nxW (M : List (List Int)) (j t u : Nat) : Nat := fva (fun v => decide (0 < ent M u v) && cw M j t v) M.length 0
def wlk (M : List (List Int)) (j : Nat) : Nat → Nat → List Int
  | 0, _ => []
  | t + 1, u => (nxW M j t u : Int) :: wlk M j t (nxW M j t u)
section
variable {M : List (List Int)}
theorem pv_ex {c : Nat → Bool} {u : Nat} : ∀ {n}, pv M c u n = true ↔ ∃ v, v < n ∧ 0 < ent M u v ∧ c v = true
  | 0 => by simp [pv]
  | n + 1 => by
    show (pv M c u n || (decide (0 < ent M u n) && c n)) = true ↔ _
    rw [Bool.or_eq_true, pv_ex (n := n), Bool.and_eq_true, decide_eq_true_eq]
    constructor
    · rintro (⟨v, a, b⟩ | b)
      · exact ⟨v, by omega, b⟩
      · exact ⟨n, by omega, b⟩
    · rintro ⟨v, a, b⟩
      by_cases e : v = n
      · subst e; exact .inr b
      · exact .inl ⟨v, by omega, b⟩
end
structure A66 where
  M : List (List Int)
  i : Nat
  j : Nat
  k : Nat
def Pre66 (a : A66) (args : List AV) (h : Heap) : Prop := (isMat a.M = true ∧ a.i < a.M.length ∧ a.j < a.M.length ∧ a.k ≤ 100) ∧ args = [.agg (matC a.M), G a.i, G a.j, G a.k]
def Post66 (a : A66) (h : Heap) (v : AV) (own : List AObj) : Prop := (cw a.M a.j a.k a.i = false → v = .nils ∧ own = []) ∧ (cw a.M a.j a.k a.i = true → NG h (h.plus own) v ((a.i : Int) :: wlk a.M a.j a.k a.i))
noncomputable def T7 : CallF := addK tbl T6 66 Pre66 Post66
theorem t7 : Sound Go.Proofs.Try.prog T7 := Sound.addK follows ok t6 (by decide) _ _
end Go.Proofs.Ytjeemgaoonapgaa.Ev
set_option linter.unusedVariables false
set_option linter.unusedSimpArgs false
namespace Go.Proofs.Ytjeemgaoonapgaa.Ev
open Go Go.AEv
structure TB (H0 h : Heap) (x : AV) (M : List (List AV)) : Prop where
  k : Kp (fun _ => False) H0 h
  x0 : ∀ q, blk x = some q → H0.size ≤ q
  r : ∃ rs, LV h x rs ∧ rs.length = M.length ∧ ∀ (i : Nat) r, rs[i]? = some r → ∃ cs b, M[i]? = some cs ∧ r = .slice b 0 cs.length cs.length ∧ h.get b = .cells 1 cs.length cs ∧ blk x ≠ some b ∧ H0.size ≤ b
theorem TB.nil (H0 : Heap) : TB H0 H0 .nils [] := ⟨Kp.refl _, fun _ e => (by cases e), [], LV.nil _, rfl, fun i r e => by simp at e⟩
theorem TB.kp {H0 h h' : Heap} {x : AV} {M : List (List AV)} (t : TB H0 h x M) (k : Kp (fun _ => False) h h') : TB H0 h' x M := by
  obtain ⟨cs, l, hl, hr⟩ := t.r
  refine ⟨t.k.trans k, t.x0, cs, l.kp k (fun _ _ => id), hl, fun i r e => ?_⟩
  obtain ⟨l, b, h1, h2, h3, h4⟩ := hr i r e
  exact ⟨l, b, h1, h2, k.at h3 (by simp) id, h4⟩
theorem TB.app {H0 h : Heap} (h0 : Nat) {x : AV} {M : List (List AV)} {b : Nat} {cs : List AV} (t : TB H0 h x M) (hv : h.get b = .cells 1 cs.length cs) (hb : blk x ≠ some b ∧ H0.size ≤ b) (hn : M.length ≤ 1000000) :
    ∃ x1 e h2, appA (h.plus [.cells 1 1 [.slice b 0 cs.length cs.length]]) h0 none 1 24 1 [.slice b 0 cs.length cs.length] x = some (x1, e) ∧ Eff.app e (h.plus [.cells 1 1 [.slice b 0 cs.length cs.length]]) = some h2 ∧ TB H0 h2 x1 (M ++ [cs]) ∧ AV.cells x1 = some [x1] := by
  obtain ⟨rs, lv, hl, hr⟩ := t.r
  generalize hvv : AV.slice b 0 cs.length cs.length = v
  have k1 : Kp (fun _ => False) h (h.plus [.cells 1 1 [v]]) := Kp.plus _ _
  obtain ⟨x1, e, h2, q1, q2, q3, q4, q5, q6⟩ := app_v (h.plus [.cells 1 1 [v]]) h0 24 v (lv.kp k1 (fun _ _ => id)) (by omega)
  have hsz : (h.plus [.cells 1 1 [v]]).size = h.size + 1 := by rw [plus_size]; rfl
  have hx1 : ∀ q, q < h.size → blk x ≠ some q → blk x1 ≠ some q := fun q hq hne hx1 => by
    rcases q5 with h' | ⟨_, h'⟩
    · rw [h'] at hx1; exact hne hx1
    · rw [h'] at hx1; cases hx1; omega
  have hsz2 := q4.size
  refine ⟨x1, e, h2, q1, q2, ⟨(t.k.trans k1).late q4 t.x0, fun q hq => ?_, rs ++ [v], q3, by simp [hl], fun i r hi => ?_⟩, q6⟩
  · rcases q5 with h' | ⟨_, h'⟩
    · rw [h'] at hq; exact t.x0 q hq
    · rw [h'] at hq; cases hq; have := t.k.size; omega
  · by_cases hi' : i < rs.length
    · rw [List.getElem?_append_left hi'] at hi
      obtain ⟨l', b', h1, h2', h3, h4, h5⟩ := hr i r hi
      have hlt := get_lt h3 (by simp)
      exact ⟨l', b', by rw [List.getElem?_append_left (by omega)]; exact h1, h2', q4.at (k1.at h3 (by simp) id) (by simp) (fun q => h4 q), hx1 b' hlt h4, h5⟩
    · rw [List.getElem?_append_right (by omega)] at hi
      have hi0 : i - rs.length = 0 := by
        rcases Nat.eq_zero_or_pos (i - rs.length) with e | e
        · exact e
        · rw [List.getElem?_eq_none (by simp; omega)] at hi; cases hi
      rw [hi0] at hi
      simp only [List.getElem?_cons_zero, Option.some.injEq] at hi
      subst hi
      exact ⟨cs, b, by rw [List.getElem?_append_right (by omega), ← hl, hi0]; rfl, hvv.symm, q4.at (k1.at hv (by simp) id) (by simp) (fun q => hb.1 q), hx1 b (get_lt hv (by simp)) hb.1, hb.2⟩
theorem TB.sl {H0 h : Heap} {x : AV} {M : List (List AV)} (t : TB H0 h x M) {i : Nat} (hi : i < M.length) : ∃ q rs, x = .slice q 0 M.length M.length ∧ h.get q = .cells 1 M.length rs ∧ rs.length = M.length ∧ ∀ (i : Nat) cs, M[i]? = some cs → ∃ b, rs[i]? = some (.slice b 0 cs.length cs.length) ∧ h.get b = .cells 1 cs.length cs := by
  obtain ⟨rs, lv, hl, hr⟩ := t.r
  obtain ⟨q, e1, e2⟩ := lv.sl (by intro e; rw [e] at hl; simp at hl; omega)
  rw [hl] at e1 e2
  refine ⟨q, rs, e1, e2, hl, fun i cs hc => ?_⟩
  have hi : i < rs.length := by have := (List.getElem?_eq_some_iff.1 hc).1; omega
  obtain ⟨cs', b, h1, h2, h3, _⟩ := hr i rs[i] (List.getElem?_eq_getElem hi)
  rw [hc] at h1
  cases h1
  exact ⟨b, by rw [List.getElem?_eq_getElem hi, h2], h3⟩
theorem TB.fr {h h' : Heap} {x : AV} {M : List (List AV)} (t : TB (frameOf h) h' x M) : TB h (h.plus h'.own) x M := by
  have e := Kp.own t.k
  obtain ⟨cs, l, hl, hr⟩ := t.r
  have hg : ∀ b, h'.get b = (h.plus h'.own).get b := fun b => by rw [e]; exact fr_get h _ b
  refine ⟨Kp.plus _ _, t.x0, cs, ?_, hl, fun i r hi => ?_⟩
  · rcases l with l | ⟨b, rfl, g, n⟩
    · exact .inl l
    · have hb : h.size ≤ b := t.x0 b rfl
      exact .inr ⟨b, rfl, (hg b).symm.trans g, by rw [plus_N]; unfold Heap.size at hb; omega⟩
  · obtain ⟨l, b, h1, h2, h3, h4, h5⟩ := hr i r hi
    exact ⟨l, b, h1, h2, (hg b).symm.trans h3, h4, h5⟩
structure MX (h : Heap) (M : List (List Int)) (b v : Nat) (cs : List AV) : Prop where
  g : h.get b = .cells 1 v cs
  l : cs.length = M.length
  r : ∀ i, i < M.length → ∃ rb rv, cs[i]? = some (.slice rb 0 M.length rv) ∧ h.get rb = .cells 1 rv (gs (M.getD i []))
theorem MX.kp {h h' : Heap} {M : List (List Int)} {b v : Nat} {cs : List AV} (m : MX h M b v cs) (k : Kp (fun _ => False) h h') : MX h' M b v cs :=
  ⟨k.at m.g (by simp) id, m.l, fun i hi => by obtain ⟨rb, rv, e1, e2⟩ := m.r i hi; exact ⟨rb, rv, e1, k.at e2 (by simp) id⟩⟩
theorem row_at {M : List (List Int)} (hm : isMat M = true) {i j : Nat} (hi : i < M.length) (hj : j < M.length) : (gs (M.getD i []))[j]? = some (G (ent M i j)) := by
  unfold ent
  have := (isMat_row hm hi).1
  rw [lf_of (M.getD i []), gl_at _ (by omega), lf_getD _ (by omega)]
theorem MR.mx {h : Heap} {y : AV} {M : List (List Int)} (m : MR h y M) (hm : isMat M = true) : ∃ b v cs, y = .slice b 0 M.length v ∧ MX h M b v cs := by
  have h8 := isMat_n hm
  rcases m with ⟨_, e⟩ | ⟨b, v, cs, rfl, g, hl, hr⟩
  · rw [e] at h8; simp at h8
  · refine ⟨b, v, cs, rfl, g, hl, fun i hi => ?_⟩
    obtain ⟨l, e1, e2⟩ := hr i cs[i] (List.getElem?_eq_getElem (by omega))
    have e3 : M.getD i [] = l := by rw [List.getD_eq_getElem?_getD, e1]; rfl
    have e4 := (isMat_row hm hi).1
    rw [e3] at e4
    rcases e2.cases with ⟨_, e⟩ | ⟨_, e⟩ | ⟨rb, rv, e, g'⟩
    · rw [e] at e4; simp at e4; omega
    · rw [e] at e4; simp at e4; omega
    · exact ⟨rb, rv, by rw [List.getElem?_eq_getElem (by omega), e, e4], by rw [e3]; exact g'⟩
end Go.Proofs.Ytjeemgaoonapgaa.Ev
set_option linter.unusedVariables false
set_option linter.unusedSimpArgs false
namespace Go.Proofs.Ytjeemgaoonapgaa.Ev
open Go Go.AEv
attribute [local simp] evFunc initS evOps_c evTrim_c evSkip_c evExit_c evRet_c evSeq_c evCond_c evBlock_c evDraw_c runOps_n runOps_c exec_n exec_g pure1_c act AOpd.ev T.get T.set T.put evBin evUn forceT_eq forceV_eq forceL_eq evRess evRes one keep runFP_n runFP_c app_none AV.flats AV.flat came_some List.getElem?_cons_zero List.getElem?_cons_succ beqT wrapI idxI tdivI tmodI decT decF ibT ibF inT inF evScope_c if_pos if_neg Cm_some thenW_n thenW_e thenW_r blkW_n blkW_e blkW_r goI kn putAt AV.cells fillA loadA takeA mk Eff.isAll Eff.isNone Eff.commutes Eff.spares okPair apart eqAgg fits LK.fits allEq aveq eqk mmA
theorem NG.fr1 {h h' : Heap} {x y : AV} {L : List Int} (t : NG (frameOf h) h' x L) : NG h (h.plus (if (one [x, y]).flat then [] else h'.own)) x L := by
  split
  · rename_i hf
    rcases t.l with ⟨rfl, e⟩ | ⟨b, rfl, g, n⟩
    · have : L = [] := by simpa using e
      subst this
      have : h.plus [] = h := by simp [Heap.plus]
      rw [this]; exact NG.nil h
    · simp [one, AV.flat, AV.flats] at hf
  · exact t.fr
section
variable {M : List (List Int)}
end
def wkL (M : List (List Int)) (i j k : Nat) : List Int := (i : Int) :: wlk M j k i
structure A36 where
  M : List (List Int)
  y : AV
  i : Nat
  j : Nat
  k : Nat
def Ok36 (a : A36) (h : Heap) : Prop := MR h a.y a.M ∧ isMat a.M = true ∧ a.i < a.M.length ∧ a.j < a.M.length ∧ a.k ≤ 100
def Pre36 (a : A36) (args : List AV) (h : Heap) : Prop := Ok36 a h ∧ args = [a.y, G a.i, G a.j, G a.k]
def Post36 (a : A36) (h : Heap) (v : AV) (own : List AObj) : Prop := (cw a.M a.j a.k a.i = false → v = .tup [.nils, .bool false] ∧ own = []) ∧ (cw a.M a.j a.k a.i = true → ∃ w, v = .tup [w, .bool true] ∧ NG h (h.plus own) w (wkL a.M a.i a.j a.k))
noncomputable def T8 : CallF := addK tbl T7 36 Pre36 Post36
theorem t8 : Sound Go.Proofs.Try.prog T8 := Sound.addK follows ok t7 (by decide) _ _
theorem NG.up {h : Heap} {X own : List AObj} {w : AV} {L : List Int} (t : NG ⟨h.get, h.size, X⟩ (Heap.plus ⟨h.get, h.size, X⟩ own) w L) : NG (frameOf h) (Heap.plus ⟨h.get, h.size, X⟩ own) w L :=
  ⟨(Kp.plus (frameOf h) X).trans t.k, fun q hq => Nat.le_trans (Kp.plus (M := fun _ => False) (frameOf h) X).size (t.x0 q hq), t.l⟩
section
variable {M : List (List Int)} {y : AV}
def wOk (M : List (List Int)) (i j k : Int) : Prop := isMat M = true ∧ (0 ≤ i ∧ i ≤ (M.length : Int) - 1) ∧ (0 ≤ j ∧ j ≤ (M.length : Int) - 1) ∧ (0 ≤ k ∧ k ≤ 100)
end
structure A35 where
  M : List (List Int)
  y : AV
  i : Int
  j : Int
  k : Int
def Pre35 (a : A35) (args : List AV) (h : Heap) : Prop := MR h a.y a.M ∧ args = [a.y, G a.i, G a.j, G a.k]
def Post35 (a : A35) (h : Heap) (v : AV) (own : List AObj) : Prop := (¬ wOk a.M a.i a.j a.k → v = .tup [.nils, G 2] ∧ own = []) ∧ (wOk a.M a.i a.j a.k → cw a.M a.j.toNat a.k.toNat a.i.toNat = false → v = .tup [.nils, G 6] ∧ own = []) ∧ (wOk a.M a.i a.j a.k → cw a.M a.j.toNat a.k.toNat a.i.toNat = true → ∃ w, v = .tup [w, G 0] ∧ NG h (h.plus own) w (wkL a.M a.i.toNat a.j.toNat a.k.toNat))
noncomputable def T9 : CallF := addK tbl T8 35 Pre35 Post35
theorem t9 : Sound Go.Proofs.Try.prog T9 := Sound.addK follows ok t8 (by decide) _ _
end Go.Proofs.Ytjeemgaoonapgaa.Ev
set_option linter.unusedVariables false
set_option linter.unusedSimpArgs false
namespace Go.Proofs.Ytjeemgaoonapgaa.Ev
open Go Go.AEv
def Wk (M : List (List Int)) : Nat → Nat → Nat → Prop
  | 0, i, j => i = j
  | k + 1, i, j => ∃ v, 0 < ent M i v ∧ Wk M k v j
section
variable {M : List (List Int)}
theorem ent_lt (hm : isMat M = true) {i j : Nat} (h : 0 < ent M i j) : i < M.length ∧ j < M.length := by
  refine ⟨?_, ?_⟩ <;> apply Nat.lt_of_not_le <;> intro c
  · rw [ent_out hm (.inl c)] at h; omega
  · rw [ent_out hm (.inr c)] at h; omega
theorem Wk.add : ∀ {a b i v j : Nat}, Wk M a i v → Wk M b v j → Wk M (a + b) i j
  | 0, b, i, v, j, x, y => by
    have e : i = v := x
    subst e
    rw [Nat.zero_add]; exact y
  | a + 1, b, i, v, j, ⟨u, e, x⟩, y => by
    rw [show a + 1 + b = (a + b) + 1 by omega]
    exact ⟨u, e, Wk.add x y⟩
theorem Wk.split : ∀ (a : Nat) {b i j : Nat}, Wk M (a + b) i j → ∃ v, Wk M a i v ∧ Wk M b v j
  | 0, b, i, j, x => ⟨i, rfl, by rwa [Nat.zero_add] at x⟩
  | a + 1, b, i, j, x => by
    rw [show a + 1 + b = (a + b) + 1 by omega] at x
    obtain ⟨u, e, x⟩ := x
    obtain ⟨v, y, z⟩ := Wk.split a x
    exact ⟨v, ⟨u, e, y⟩, z⟩
theorem Wk.one {i j : Nat} (h : 0 < ent M i j) : Wk M 1 i j := ⟨j, h, rfl⟩
theorem Wk.one_iff {i j : Nat} : Wk M 1 i j ↔ 0 < ent M i j := ⟨fun ⟨v, e, x⟩ => by
  have : v = j := x
  subst this; exact e, Wk.one⟩
theorem Wk.snoc {k i j : Nat} : Wk M (k + 1) i j ↔ ∃ v, Wk M k i v ∧ 0 < ent M v j := by
  constructor
  · intro x
    obtain ⟨v, a, b⟩ := Wk.split k x
    exact ⟨v, a, Wk.one_iff.1 b⟩
  · rintro ⟨v, a, b⟩
    exact a.add (Wk.one b)
theorem Wk.lt (hm : isMat M = true) {k i j : Nat} (x : Wk M (k + 1) i j) : i < M.length ∧ j < M.length := by
  obtain ⟨v, e, _⟩ := id x
  obtain ⟨w, _, e'⟩ := Wk.snoc.1 x
  exact ⟨(ent_lt hm e).1, (ent_lt hm e').2⟩
theorem Wk.lt' (hm : isMat M = true) {k i j : Nat} (x : Wk M k i j) (hi : i < M.length) : j < M.length := by
  cases k with
  | zero => have : i = j := x
            omega
  | succ k => exact (x.lt hm).2
theorem cw_iff (hm : isMat M = true) {j : Nat} : ∀ {k u : Nat}, cw M j k u = true ↔ Wk M k u j
  | 0, u => by
    show decide (u = j) = true ↔ u = j
    rw [decide_eq_true_eq]
  | k + 1, u => by
    show pv M (cw M j k) u M.length = true ↔ ∃ v, 0 < ent M u v ∧ Wk M k v j
    rw [pv_ex]
    constructor
    · rintro ⟨v, _, a, b⟩; exact ⟨v, a, (cw_iff hm).1 b⟩
    · rintro ⟨v, a, b⟩; exact ⟨v, (ent_lt hm a).2, a, (cw_iff hm).2 b⟩
def Full (M : List (List Int)) (k : Nat) : Prop := ∀ i, i < M.length → ∀ j, j < M.length → Wk M k i j
def fullB (M : List (List Int)) (k : Nat) : Bool := (List.range M.length).all fun i => (List.range M.length).all fun j => cw M j k i
theorem fullB_iff (hm : isMat M = true) {k : Nat} : fullB M k = true ↔ Full M k := by
  unfold fullB Full
  simp only [List.all_eq_true, List.mem_range, cw_iff hm]
def Rc (M : List (List Int)) (i j : Nat) : Prop := ∃ k, Wk M k i j
theorem Rc.refl (i : Nat) : Rc M i i := ⟨0, rfl⟩
theorem Rc.trans {i j k : Nat} (a : Rc M i j) (b : Rc M j k) : Rc M i k := by
  obtain ⟨x, a⟩ := a
  obtain ⟨y, b⟩ := b
  exact ⟨x + y, a.add b⟩
theorem Rc.one {i j : Nat} (h : 0 < ent M i j) : Rc M i j := ⟨1, Wk.one h⟩
theorem Rc.lt (hm : isMat M = true) {i j : Nat} (a : Rc M i j) (hi : i < M.length) : j < M.length := by
  obtain ⟨k, a⟩ := a; exact a.lt' hm hi
theorem wsh_rc (hm : isMat M = true) : ∀ {k x : Nat}, wsh M k x = true → Rc M (x / 8) (x % 8)
  | 0, x, h => by
    have h' : (stF M x || decide (x / 8 = x % 8 ∧ x / 8 < M.length)) = true := h
    rw [Bool.or_eq_true, decide_eq_true_eq] at h'
    rcases h' with h' | h'
    · unfold stF at h'
      exact Rc.one (by simpa using h')
    · rw [h'.1]; exact Rc.refl _
  | k + 1, x, h => by
    have h' : (wsh M k x || (wsh M k (x / 8 * 8 + k) && wsh M k (k * 8 + x % 8))) = true := h
    rw [Bool.or_eq_true, Bool.and_eq_true] at h'
    rcases h' with h' | ⟨a, b⟩
    · exact wsh_rc hm h'
    · have hk : k < 8 := by
        have h8 := isMat_n hm
        apply Nat.lt_of_not_le
        intro c
        rw [wsh_out hm (.inl (by omega))] at b; cases b
      have a' := wsh_rc hm a
      have b' := wsh_rc hm b
      rw [show (x / 8 * 8 + k) / 8 = x / 8 by omega, show (x / 8 * 8 + k) % 8 = k by omega] at a'
      rw [show (k * 8 + x % 8) / 8 = k by omega, show (k * 8 + x % 8) % 8 = x % 8 by omega] at b'
      exact a'.trans b'
theorem wsh_mono {k x : Nat} (h : wsh M k x = true) : wsh M (k + 1) x = true := by
  show (wsh M k x || _) = true
  rw [h, Bool.true_or]
theorem wsh_s {k i j : Nat} (hj : j < 8) : wsh M (k + 1) (i * 8 + j) = (wsh M k (i * 8 + j) || (wsh M k (i * 8 + k) && wsh M k (k * 8 + j))) := by
  show (wsh M k (i * 8 + j) || (wsh M k ((i * 8 + j) / 8 * 8 + k) && wsh M k (k * 8 + (i * 8 + j) % 8))) = _
  rw [show (i * 8 + j) / 8 = i by omega, show (i * 8 + j) % 8 = j by omega]
theorem wsh_join (hm : isMat M = true) : ∀ {k i v j : Nat}, k ≤ 8 → v < k → v < 8 → j < 8 → wsh M k (i * 8 + v) = true → wsh M k (v * 8 + j) = true → wsh M k (i * 8 + j) = true
  | 0, i, v, j, _, hv, _, _, _, _ => by omega
  | k + 1, i, v, j, hk8, hv, h8, hj, a, b => by
    rw [wsh_s h8] at a
    rw [wsh_s hj] at b ⊢
    simp only [Bool.or_eq_true, Bool.and_eq_true] at a b ⊢
    by_cases hvk : v = k
    · subst hvk
      have a1 : wsh M v (i * 8 + v) = true := by rcases a with a | a; exact a; exact a.1
      have b1 : wsh M v (v * 8 + j) = true := by rcases b with b | b; exact b; exact b.2
      exact .inr ⟨a1, b1⟩
    · have hlt : v < k := by omega
      have ih := fun {i j : Nat} => wsh_join hm (k := k) (i := i) (v := v) (j := j) (by omega) hlt h8
      have ik : ∀ {i}, wsh M k (i * 8 + v) = true → wsh M k (v * 8 + k) = true → wsh M k (i * 8 + k) = true := fun {i} x y => ih (by omega) x y
      rcases a with a | a <;> rcases b with b | b
      · exact .inl (ih hj a b)
      · exact .inr ⟨ik a b.1, b.2⟩
      · exact .inr ⟨a.1, ih hj a.2 b⟩
      · exact .inr ⟨a.1, b.2⟩
theorem ldF_iff (hm : isMat M = true) {i j : Nat} (hi : i < M.length) (hj : j < M.length) : ldF M (i * 8 + j) = true ↔ Rc M i j := by
  have h8 := isMat_n hm
  constructor
  · intro h
    have := wsh_rc hm h
    rwa [show (i * 8 + j) / 8 = i by omega, show (i * 8 + j) % 8 = j by omega] at this
  · rintro ⟨k, w⟩
    have base : ∀ {m x}, wsh M 0 x = true → wsh M m x = true := fun {m x} h => by
      induction m with
      | zero => exact h
      | succ m ih => exact wsh_mono ih
    induction k generalizing i with
    | zero =>
      have e : i = j := w
      subst e
      refine base (m := M.length) ?_
      show (stF M (i * 8 + i) || decide ((i * 8 + i) / 8 = (i * 8 + i) % 8 ∧ (i * 8 + i) / 8 < M.length)) = true
      rw [decide_eq_true (by omega), Bool.or_true]
    | succ k ih =>
      obtain ⟨v, e, w⟩ := w
      have hv := (ent_lt hm e).2
      refine wsh_join hm h8.2 hv (by omega) (by omega) (base (m := M.length) ?_) (ih hv w)
      show (stF M (i * 8 + v) || _) = true
      unfold stF
      rw [show (i * 8 + v) / 8 = i by omega, show (i * 8 + v) % 8 = v by omega, decide_eq_true e, Bool.true_or]
def Mu (M : List (List Int)) (i j : Nat) : Prop := Rc M i j ∧ Rc M j i
theorem Mu.symm {i j : Nat} (h : Mu M i j) : Mu M j i := ⟨h.2, h.1⟩
theorem Mu.refl (i : Nat) : Mu M i i := ⟨Rc.refl i, Rc.refl i⟩
theorem Mu.trans {i j k : Nat} (h : Mu M i j) (g : Mu M j k) : Mu M i k := ⟨h.1.trans g.1, g.2.trans h.2⟩
theorem lsm_min (hm : isMat M = true) {i : Nat} (hi : i < M.length) : ∀ m, m ≤ i → Mu M i (lsm (ldF M) i m) ∧ ∀ j, j < m → Mu M i j → lsm (ldF M) i m ≤ j
  | 0, _ => ⟨Mu.refl i, fun j hj => absurd hj (by omega)⟩
  | m + 1, h => by
    obtain ⟨a, b⟩ := lsm_min hm hi m (by omega)
    have e : lsm (ldF M) i (m + 1) = if ldF M (i * 8 + m) && ldF M (m * 8 + i) then min (lsm (ldF M) i m) m else lsm (ldF M) i m := rfl
    rw [e]
    by_cases c : (ldF M (i * 8 + m) && ldF M (m * 8 + i)) = true
    · rw [if_pos c]
      rw [Bool.and_eq_true, ldF_iff hm hi (by omega), ldF_iff hm (by omega) hi] at c
      refine ⟨?_, fun j hj q => ?_⟩
      · by_cases c2 : lsm (ldF M) i m ≤ m
        · rw [Nat.min_eq_left c2]; exact a
        · rw [Nat.min_eq_right (by omega)]; exact c
      · by_cases c2 : j = m
        · omega
        · have := b j (by omega) q; omega
    · rw [if_neg c]
      rw [Bool.and_eq_true, ldF_iff hm hi (by omega), ldF_iff hm (by omega) hi] at c
      refine ⟨a, fun j hj q => ?_⟩
      by_cases c2 : j = m
      · subst c2; exact absurd q c
      · exact b j (by omega) q
theorem clN_ok (hm : isMat M = true) {i : Nat} (hi : i < M.length) : clN M i ≤ i ∧ Mu M i (clN M i) ∧ ∀ j, Mu M i j → clN M i ≤ j := by
  obtain ⟨a, b⟩ := lsm_min hm hi i (Nat.le_refl _)
  refine ⟨lsm_le _ _ _, a, fun j q => ?_⟩
  by_cases c : j < i
  · exact b j c q
  · have := lsm_le (ldF M) i i
    show lsm (ldF M) i i ≤ j
    omega
theorem clN_eq (hm : isMat M = true) {i j : Nat} (hi : i < M.length) (hj : j < M.length) : clN M i = clN M j ↔ Mu M i j := by
  obtain ⟨a1, a2, a3⟩ := clN_ok hm hi
  obtain ⟨b1, b2, b3⟩ := clN_ok hm hj
  constructor
  · intro e
    rw [e] at a2
    exact a2.trans b2.symm
  · intro m
    have := a3 _ (m.trans b2)
    have := b3 _ (m.symm.trans a2)
    omega
end
end Go.Proofs.Ytjeemgaoonapgaa.Ev
set_option linter.unusedVariables false
set_option linter.unusedSimpArgs false
namespace Go.Proofs.Ytjeemgaoonapgaa.Ev
open Go Go.AEv
attribute [local simp] evFunc initS evOps_c evTrim_c evSkip_c evExit_c evRet_c evSeq_c evCond_c evBlock_c evDraw_c runOps_n runOps_c exec_n exec_g pure1_c act AOpd.ev T.get T.set T.put evBin evUn forceT_eq forceV_eq forceL_eq evRess evRes one keep runFP_n runFP_c app_none AV.flats AV.flat came_some List.getElem?_cons_zero List.getElem?_cons_succ beqT wrapI idxI tdivI tmodI decT decF ibT ibF inT inF evScope_c if_pos if_neg Cm_some thenW_n thenW_e thenW_r blkW_n blkW_e blkW_r goI kn putAt AV.cells fillA loadA takeA mk Eff.isAll Eff.isNone Eff.commutes Eff.spares okPair apart eqAgg fits LK.fits allEq aveq eqk mmA
section
variable {M : List (List Int)}
def exM (n : Nat) : Nat := (n - 1) * (n - 1) + 1
def exN (M : List (List Int)) : Nat := fva (fullB M) (exM M.length) 1
def exB (M : List (List Int)) : Bool := decide (exN M ≤ exM M.length)
end
section
variable {M : List (List Int)}
end
structure AM where
  M : List (List Int)
  y : AV
def PreM (a : AM) (args : List AV) (h : Heap) : Prop := MR h a.y a.M ∧ args = [a.y]
def Post34 (a : AM) (h : Heap) (v : AV) (own : List AObj) : Prop := v = (if isMat a.M then (if exB a.M then .tup [G (exN a.M), G 0] else .tup [G 0, G 6]) else .tup [G 0, G 2]) ∧ own = []
noncomputable def T10 : CallF := addK tbl T9 34 PreM Post34
theorem t10 : Sound Go.Proofs.Try.prog T10 := Sound.addK follows ok t9 (by decide) _ _
def PreO (a : AM) (args : List AV) (h : Heap) : Prop := (MR h a.y a.M ∧ isMat a.M = true) ∧ args = [a.y]
def Post44 (a : AM) (h : Heap) (v : AV) (own : List AObj) : Prop := v = (if exB a.M then .tup [G (exN a.M), .bool true] else .tup [G 0, .bool false]) ∧ own = []
noncomputable def T11 : CallF := addK tbl T10 44 PreO Post44
theorem t11 : Sound Go.Proofs.Try.prog T11 := Sound.addK follows ok t10 (by decide) _ _
theorem sq_get (f : Nat → Int) {i : Nat} (hi : i < 64) {x : Int} (e : f i = x) : (sq f)[i]? = some (G x) := by rw [sq_at f hi, e]
def onF (i x : Nat) : Int := if x / 8 = x % 8 ∧ x / 8 < i then 1 else 0
theorem onF_0 : onF 0 = fun _ => 0 := by
  funext x; unfold onF; rw [if_neg (by omega)]
theorem onF_set {i : Nat} (hi : i < 8) : (sq (onF i)).set (i * 8 + i) (G 1) = sq (onF (i + 1)) := by
  rw [sq_set _ _ _ (by omega)]
  apply sq_ext
  intro x hx
  unfold onF
  by_cases e : x = i * 8 + i
  · rw [if_pos e, if_pos (by omega)]
  · rw [if_neg e]
    by_cases c : x / 8 = x % 8 ∧ x / 8 < i
    · rw [if_pos c, if_pos (by omega)]
    · rw [if_neg c, if_neg (by omega)]
section
variable {M : List (List Int)}
def HO (h : Heap) (M : List (List Int)) (f : Nat → Int) : Heap := ⟨h.get, h.size, [.cells 0 65 (matC M), .cells 0 64 (sq fun _ => 0), .cells 0 64 (sq f)]⟩
theorem c72_in (J : CallF) (h : Heap) {n : Nat} (h8 : n ≤ 8) : Tr tbl J c72_l0 (fun s h' => h' = HO h M (onF 0) ∧ s.get [true] = .ptr (h.size + 1) 0 64 ∧ s.get [false, false] = .ptr (h.size + 2) 0 64 ∧ s.get [true, true] = G n ∧ s.get [false, false, false] = G ((0 : Nat) : Int)) (.exit 0) (fun s h' => h' = HO h M (onF n) ∧ s.get [true] = .ptr (h.size + 1) 0 64 ∧ s.get [false, false] = .ptr (h.size + 2) 0 64) := by
  refine Tr.rounds (P := fun i => (fun s h' => h' = HO h M (onF i) ∧ s.get [true] = .ptr (h.size + 1) 0 64 ∧ s.get [false, false] = .ptr (h.size + 2) 0 64 ∧ s.get [true, true] = G n ∧ s.get [false, false, false] = G i)) (M := n) (fun i hi => ?_) ?_ (by simp) 0 (by omega)
  · refine Tr.w fun s1 H1 hp R kR => W.trim ?_
    obtain ⟨rfl, q⟩ := hp
    have es := onF_set (i := i) (by omega)
    have l0 := sq_len (onF i)
    simp only [HO] at kR ⊢
    generalize sq (onF (i + 1)) = c1 at *
    generalize sq (onF i) = c0 at *
    generalize matC M = cm at *
    refine W.seq (W.chunk ?_)
    simp (disch := first|omega|exact zE rfl|exact zO|exact zL rfl) [c72_o3, size_mk, get_mk_lt, get_mk_ge, frameOf, Eff.app, Heap.setOwn, q]
    refine W.seq (W.chunk ?_)
    simp (disch := first|omega|exact zE rfl|exact zO|exact zL rfl) [size_mk, get_mk_lt, get_mk_ge, frameOf, Eff.app, Heap.setOwn, q]
    refine W.seq (W.block ?_)
    refine W.seq (W.chunk ?_)
    simp (disch := first|omega|exact zE rfl|exact zO|exact zL rfl) [c72_o4, size_mk, get_mk_lt, get_mk_ge, frameOf, Eff.app, Heap.setOwn, q]
    refine W.chunk ?_
    simp (disch := first|omega|exact zE rfl|exact zO|exact zL rfl) [c72_o5, size_mk, get_mk_lt, get_mk_ge, frameOf, Eff.app, Heap.setOwn, q, l0, es]
    refine W.chunk ?_
    simp (disch := first|omega|exact zE rfl|exact zO|exact zL rfl) [c72_o6, size_mk, get_mk_lt, get_mk_ge, frameOf, Eff.app, Heap.setOwn, q]
    exact kR _ _ (by simp [T.get, q])
  · refine Tr.w fun s1 H1 hp R kR => W.trim ?_
    obtain ⟨rfl, q⟩ := hp
    refine W.seq (W.chunk ?_)
    simp (disch := first|omega|exact zE rfl|exact zO|exact zL rfl) [c72_o3, size_mk, get_mk_lt, get_mk_ge, frameOf, Eff.app, Heap.setOwn, q]
    refine W.seq (W.chunk ?_)
    simp (disch := first|omega|exact zE rfl|exact zO|exact zL rfl) [size_mk, get_mk_lt, get_mk_ge, frameOf, Eff.app, Heap.setOwn, q]
    exact kR _ _ (by simp [T.get, q])
theorem c72_ok (J : CallF) (hJ : ∀ a h, J 72 a h = none) (h : Heap) (hm : isMat M = true) : CallsTo tbl J 72 [.agg (matC M)] h (.agg (sq (onF M.length)), [], false) := by
  refine Tr.fnv (cf := c72) (e := .ret) (s := T.set .leaf [] (.agg (matC M))) (by decide) rfl (hJ _ _) rfl rfl (sq_flat _) (by simp) ?_
  have h8 := isMat_n hm
  have lo := c72_in (M := M) J h h8.2
  have rp := sq_rep
  have l1 := matC_len M
  have lz := sq_len fun _ => 0
  have e0 : (matC M)[0]? = some (G M.length) := rfl
  have e0' := getI e0
  refine Tr.w fun s1 H1 hp R kR => ?_
  obtain ⟨rfl, rfl⟩ := hp
  have q : True := trivial
  refine W.seq (W.chunk ?_)
  simp (disch := first|omega|exact zE rfl|exact zO|exact zL rfl) [-List.reduceReplicate, c72_o0, size_mk, get_mk_lt, get_mk_ge, frameOf, Eff.app, Heap.setOwn, q, l1, rp, frameOf]
  refine W.seq (W.chunk ?_)
  simp (disch := first|omega|exact zE rfl|exact zO|exact zL rfl) [-List.reduceReplicate, c72_o1, size_mk, get_mk_lt, get_mk_ge, frameOf, Eff.app, Heap.setOwn, q, rp]
  refine W.assoc ?_
  refine W.seq (W.chunk ?_)
  simp (disch := first|omega|exact zE rfl|exact zO|exact zL rfl) [-List.reduceReplicate, c72_o2, size_mk, get_mk_lt, get_mk_ge, frameOf, Eff.app, Heap.setOwn, q, e0, e0', l1]
  refine W.seq (W.block ?_)
  refine W.use (lo) (by simp (disch := first|omega|exact zE rfl|exact zO|exact zL rfl) [-List.reduceReplicate, size_mk, get_mk_lt, get_mk_ge, frameOf, Eff.app, Heap.setOwn, q, HO, onF_0, lz]) fun s1 H1 hp => ?_
  obtain ⟨rfl, q⟩ := hp
  try simp only [zW, if_true]
  simp only [HO] at *
  have lf := sq_len (onF M.length)
  generalize hcf : sq (onF M.length) = cf at *
  generalize hcz : (sq fun _ => 0) = cz at *
  have et : cf.take 64 = cf := List.take_of_length_le (by omega)
  have ep : putAt cz 0 cf = cf := putAt_all _ _ (by omega)
  refine W.seq (W.chunk ?_)
  simp (disch := first|omega|exact zE rfl|exact zO|exact zL rfl) [-List.reduceReplicate, c72_o7, size_mk, get_mk_lt, get_mk_ge, frameOf, Eff.app, Heap.setOwn, q, et, ep, lf, lz]
  refine W.ret ?_
  try simp only [zW, if_true]
  exact kR _ _ (by simp [T.get, c72, evRess, evRes, loadA, get_mk_ge, takeA, et, lf, one])
abbrev mostP : Int := 1152921504606846976
def dt (M : List (List Int)) (X : Nat → Int) (i j : Nat) : Nat → Int
  | 0 => 0
  | k + 1 => dt M X i j k + X (i * 8 + k) * ent M k j
def prF (M : List (List Int)) (X : Nat → Int) (x : Nat) : Int := if x / 8 < M.length then dt M X (x / 8) (x % 8) M.length else 0
def oP (M : List (List Int)) (X : Nat → Int) (i j k x : Nat) : Int := if x / 8 < i then dt M X (x / 8) (x % 8) M.length else if x / 8 = i then (if x % 8 < j then dt M X i (x % 8) M.length else if x % 8 = j then dt M X i j k else 0) else 0
theorem dt_out (hm : isMat M = true) (X : Nat → Int) (i : Nat) {j : Nat} (hj : M.length ≤ j) : ∀ k, dt M X i j k = 0
  | 0 => rfl
  | k + 1 => by
    show dt M X i j k + X (i * 8 + k) * ent M k j = 0
    rw [dt_out hm X i hj k, ent_out hm (.inr hj), Int.mul_zero]; rfl
theorem dt_nn (hm : isMat M = true) {X : Nat → Int} (hX : ∀ x, 0 ≤ X x) (i j : Nat) : ∀ k, 0 ≤ dt M X i j k
  | 0 => Int.le_refl _
  | k + 1 => by
    have a := dt_nn hm hX i j k
    have b := Int.mul_nonneg (hX (i * 8 + k)) (ent_bd hm k j).1
    show 0 ≤ dt M X i j k + X (i * 8 + k) * ent M k j
    omega
theorem dt_mono (hm : isMat M = true) {X : Nat → Int} (hX : ∀ x, 0 ≤ X x) (i j : Nat) : ∀ (d k : Nat), dt M X i j k ≤ dt M X i j (k + d)
  | 0, k => Int.le_refl _
  | d + 1, k => by
    have a := dt_mono hm hX i j d k
    have b := Int.mul_nonneg (hX (i * 8 + (k + d))) (ent_bd hm (k + d) j).1
    show dt M X i j k ≤ dt M X i j (k + d) + X (i * 8 + (k + d)) * ent M (k + d) j
    omega
theorem oP_0 (X : Nat → Int) : oP M X 0 0 0 = fun _ => 0 := by
  funext x; unfold oP
  rw [if_neg (by omega)]
  split
  · rw [if_neg (by omega)]; split <;> rfl
  · rfl
theorem oP_k (X : Nat → Int) (i j : Nat) : oP M X i j M.length = oP M X i (j + 1) 0 := by
  funext x; unfold oP
  by_cases h1 : x / 8 < i
  · rw [if_pos h1, if_pos h1]
  · rw [if_neg h1, if_neg h1]
    by_cases h2 : x / 8 = i
    · rw [if_pos h2, if_pos h2]
      by_cases h3 : x % 8 < j
      · rw [if_pos h3, if_pos (show x % 8 < j + 1 by omega)]
      · rw [if_neg h3]
        by_cases h4 : x % 8 = j
        · rw [if_pos h4, if_pos (show x % 8 < j + 1 by omega), h4]
        · rw [if_neg h4, if_neg (show ¬ x % 8 < j + 1 by omega)]
          split <;> rfl
    · rw [if_neg h2, if_neg h2]
theorem oP_j (hm : isMat M = true) (X : Nat → Int) (i : Nat) : oP M X i M.length 0 = oP M X (i + 1) 0 0 := by
  have h8 := isMat_n hm
  funext x; unfold oP
  by_cases h1 : x / 8 < i
  · rw [if_pos h1, if_pos (show x / 8 < i + 1 by omega)]
  · rw [if_neg h1]
    by_cases h2 : x / 8 = i
    · rw [if_pos h2, if_pos (show x / 8 < i + 1 by omega)]
      by_cases h3 : x % 8 < M.length
      · rw [if_pos h3, h2]
      · rw [if_neg h3, dt_out hm X (x / 8) (j := x % 8) (by omega)]
        split <;> rfl
    · rw [if_neg h2, if_neg (show ¬ x / 8 < i + 1 by omega)]
      split
      · rw [if_neg (show ¬ x % 8 < 0 by omega)]; split <;> rfl
      · rfl
theorem oP_all (X : Nat → Int) : oP M X M.length 0 0 = prF M X := by
  funext x; unfold oP prF
  by_cases h1 : x / 8 < M.length
  · rw [if_pos h1, if_pos h1]
  · rw [if_neg h1, if_neg h1]
    split
    · rw [if_neg (show ¬ x % 8 < 0 by omega)]; split <;> rfl
    · rfl
theorem oP_at {X : Nat → Int} {i j k : Nat} (hj : j < 8) : oP M X i j k (i * 8 + j) = dt M X i j k := by
  unfold oP
  rw [if_neg (by omega), if_pos (by omega), if_neg (by omega), if_pos (by omega)]
theorem oP_set {X : Nat → Int} {i j k : Nat} (hi : i < 8) (hj : j < 8) : (sq (oP M X i j k)).set (i * 8 + j) (G (dt M X i j k + X (i * 8 + k) * ent M k j)) = sq (oP M X i j (k + 1)) := by
  rw [sq_set _ _ _ (by omega)]
  apply sq_ext
  intro x hx
  unfold oP
  by_cases e : x = i * 8 + j
  · rw [if_pos e, if_neg (by omega), if_pos (by omega), if_neg (by omega), if_pos (by omega)]; rfl
  · rw [if_neg e]
    by_cases h1 : x / 8 < i
    · rw [if_pos h1, if_pos h1]
    · rw [if_neg h1, if_neg h1]
      by_cases h2 : x / 8 = i
      · rw [if_pos h2, if_pos h2]
        by_cases h3 : x % 8 < j
        · rw [if_pos h3, if_pos h3]
        · rw [if_neg h3, if_neg h3, if_neg (by omega), if_neg (by omega)]
      · rw [if_neg h2, if_neg h2]
def entS (M : List (List Int)) (x : Nat) : Int := ent M (x / 8) (x % 8)
def HP (h : Heap) (M : List (List Int)) (X : Nat → Int) (f : Nat → Int) : Heap := ⟨h.get, h.size, [.cells 0 65 (matC M), .cells 0 64 (sq X), .cells 0 64 (sq (entS M)), .cells 0 64 (sq fun _ => 0), .cells 0 64 (sq f)]⟩
structure P73 (k n i j : Nat) (cx cy c0 c1 cz : List AV) (a b D p Q : Int) : Prop where
  hk : k < n ∧ i < n ∧ j < n ∧ n ≤ 8
  e1 : cx[i * 8 + k]? = some (G a)
  e2 : cy[k * 8 + j]? = some (G b)
  e3 : c0[i * 8 + j]? = some (G D)
  e4 : c1[i * 8 + j]? = some (G (D + p))
  es : c0.set (i * 8 + j) (G (D + p)) = c1
  l3 : c0.length = 64
  l5 : c1.length = 64
  hz : cz.length = 64
  ha : 0 ≤ a ∧ a ≤ 1152921504606846976
  hb : 0 ≤ b ∧ b ≤ 9
  hD : 0 ≤ D ∧ D ≤ 1152921504606846976
  hp : a * b = p
  hp0 : 0 ≤ p
  hQ : 1152921504606846976 / b = Q
  hQ0 : 0 ≤ Q ∧ Q ≤ 1152921504606846976
  hq : 0 < b → (Q < a ↔ 1152921504606846976 < p)
  hb0 : b = 0 → p = 0
theorem c73_f1 (J : CallF) (h : Heap) {k n i j : Nat} {cm cx cy c0 c1 cz : List AV} {a b D p Q : Int} (P : P73 k n i j cx cy c0 c1 cz a b D p Q) (ez : putAt cz 0 cz = cz) (hcz : List.replicate 64 (AV.int .i64 0) = cz) (big : 1152921504606846976 < p) :
    Tr tbl J (.trim [[false, false], [true, false], [false, true], [true, true], [true, false, false], [false, true, false], [true, true, false], [false, false, false, false], [true, false, false, false], [true, false, true, false], [false, true, true, false], [false, true, false, true], [true, true, false, true]] c73_b0) (fun s h' => h' = ⟨h.get, h.size, [.cells 0 65 cm, .cells 0 64 cx, .cells 0 64 cy, .cells 0 64 cz, .cells 0 64 c0]⟩ ∧ s.get [false, false] = .ptr h.size 0 65 ∧ s.get [true, false] = .ptr (h.size + 1) 0 64 ∧ s.get [false, true] = .ptr (h.size + 2) 0 64 ∧ s.get [true, true] = .ptr (h.size + 3) 0 64 ∧ s.get [true, false, false] = .ptr (h.size + 4) 0 64 ∧ s.get [false, true, false] = G i ∧ s.get [true, true, false] = G j ∧ s.get [false, false, false, false] = G n ∧ s.get [true, false, false, false] = G i ∧ s.get [true, false, true, false] = G n ∧ s.get [false, true, true, false] = G j ∧ s.get [false, true, false, true] = G n ∧ s.get [true, true, false, true] = G k) .ret
      (fun s h' => h' = ⟨h.get, h.size, [.cells 0 65 cm, .cells 0 64 cx, .cells 0 64 cy, .cells 0 64 cz, .cells 0 64 c0]⟩ ∧ s.get [true, true] = .ptr (h.size + 3) 0 64 ∧ s.get [false, false, false] = .bool false) := by
  obtain ⟨hk, e1, e2, e3, e4, es, l3, l5, l4, ha, hb, hD, hp, hp0, hQ, hQ0, hq, hb0⟩ := P
  have e1' := getI e1
  have e2' := getI e2
  have bp : 0 < b := by
    rcases Int.lt_or_le 0 b with c | c
    · exact c
    · have := hb0 (by omega); omega
  have hlt := (hq bp).2 big
  refine Tr.w fun s1 H1 hp R kR => W.trim ?_
  obtain ⟨rfl, q⟩ := hp
  refine W.seq (W.chunk ?_)
  simp (disch := first|omega|exact zE rfl|exact zO|exact zL rfl) [-List.reduceReplicate, c73_o9, size_mk, get_mk_lt, get_mk_ge, frameOf, Eff.app, Heap.setOwn, q]
  refine W.seq (W.chunk ?_)
  simp (disch := first|omega|exact zE rfl|exact zO|exact zL rfl) [-List.reduceReplicate, size_mk, get_mk_lt, get_mk_ge, frameOf, Eff.app, Heap.setOwn, q]
  refine W.seq (W.block ?_)
  refine W.seq (W.chunk ?_)
  simp (disch := first|omega|exact zE rfl|exact zO|exact zL rfl) [-List.reduceReplicate, c73_o10, size_mk, get_mk_lt, get_mk_ge, frameOf, Eff.app, Heap.setOwn, q]
  refine W.seq (W.chunk ?_)
  simp (disch := first|omega|exact zE rfl|exact zO|exact zL rfl) [-List.reduceReplicate, c73_o11, size_mk, get_mk_lt, get_mk_ge, frameOf, Eff.app, Heap.setOwn, q, e1, e1', e2, e2', -evDraw_c, evDraw_0]
  refine W.assoc ?_
  refine W.seq (W.chunk ?_)
  simp (disch := first|omega|exact zE rfl|exact zO|exact zL rfl) [-List.reduceReplicate, c73_o12, size_mk, get_mk_lt, get_mk_ge, frameOf, Eff.app, Heap.setOwn, q, hQ]
  refine W.seq (W.chunk ?_)
  simp (disch := first|omega|exact zE rfl|exact zO|exact zL rfl) [-List.reduceReplicate, c73_o13, size_mk, get_mk_lt, get_mk_ge, frameOf, Eff.app, Heap.setOwn, q, hcz, ez, l4]
  exact kR _ _ (by simp [T.get, q])
theorem c73_f2 (J : CallF) (h : Heap) {k n i j : Nat} {cm cx cy c0 c1 cz : List AV} {a b D p Q : Int} (P : P73 k n i j cx cy c0 c1 cz a b D p Q) (ez : putAt cz 0 cz = cz) (hcz : List.replicate 64 (AV.int .i64 0) = cz) (big : ¬ 1152921504606846976 < p) (big2 : 1152921504606846976 < D + p) :
    Tr tbl J (.trim [[false, false], [true, false], [false, true], [true, true], [true, false, false], [false, true, false], [true, true, false], [false, false, false, false], [true, false, false, false], [true, false, true, false], [false, true, true, false], [false, true, false, true], [true, true, false, true]] c73_b0) (fun s h' => h' = ⟨h.get, h.size, [.cells 0 65 cm, .cells 0 64 cx, .cells 0 64 cy, .cells 0 64 cz, .cells 0 64 c0]⟩ ∧ s.get [false, false] = .ptr h.size 0 65 ∧ s.get [true, false] = .ptr (h.size + 1) 0 64 ∧ s.get [false, true] = .ptr (h.size + 2) 0 64 ∧ s.get [true, true] = .ptr (h.size + 3) 0 64 ∧ s.get [true, false, false] = .ptr (h.size + 4) 0 64 ∧ s.get [false, true, false] = G i ∧ s.get [true, true, false] = G j ∧ s.get [false, false, false, false] = G n ∧ s.get [true, false, false, false] = G i ∧ s.get [true, false, true, false] = G n ∧ s.get [false, true, true, false] = G j ∧ s.get [false, true, false, true] = G n ∧ s.get [true, true, false, true] = G k) .ret
      (fun s h' => h' = ⟨h.get, h.size, [.cells 0 65 cm, .cells 0 64 cx, .cells 0 64 cy, .cells 0 64 cz, .cells 0 64 c1]⟩ ∧ s.get [true, true] = .ptr (h.size + 3) 0 64 ∧ s.get [false, false, false] = .bool false) := by
  obtain ⟨hk, e1, e2, e3, e4, es, l3, l5, l4, ha, hb, hD, hp, hp0, hQ, hQ0, hq, hb0⟩ := P
  have e1' := getI e1
  have e2' := getI e2
  have e3' := getI e3
  have e4' := getI e4
  have bp : 0 < b := by
    rcases Int.lt_or_le 0 b with c | c
    · exact c
    · have := hb0 (by omega); omega
  have hlt := (hq bp).1
  have hle : a ≤ Q := by
    rcases Int.lt_or_le Q a with c | c
    · have := hlt c; omega
    · exact c
  clear hq hlt
  refine Tr.w fun s1 H1 hp R kR => W.trim ?_
  obtain ⟨rfl, q⟩ := hp
  refine W.seq (W.chunk ?_)
  simp (disch := first|omega|exact zE rfl|exact zO|exact zL rfl) [-List.reduceReplicate, c73_o9, size_mk, get_mk_lt, get_mk_ge, frameOf, Eff.app, Heap.setOwn, q]
  refine W.seq (W.chunk ?_)
  simp (disch := first|omega|exact zE rfl|exact zO|exact zL rfl) [-List.reduceReplicate, size_mk, get_mk_lt, get_mk_ge, frameOf, Eff.app, Heap.setOwn, q]
  refine W.seq (W.block ?_)
  refine W.seq (W.chunk ?_)
  simp (disch := first|omega|exact zE rfl|exact zO|exact zL rfl) [-List.reduceReplicate, c73_o10, size_mk, get_mk_lt, get_mk_ge, frameOf, Eff.app, Heap.setOwn, q]
  refine W.seq (W.chunk ?_)
  simp (disch := first|omega|exact zE rfl|exact zO|exact zL rfl) [-List.reduceReplicate, c73_o11, size_mk, get_mk_lt, get_mk_ge, frameOf, Eff.app, Heap.setOwn, q, e1, e1', e2, e2', -evDraw_c, evDraw_0]
  refine W.assoc ?_
  refine W.seq (W.chunk ?_)
  simp (disch := first|omega|exact zE rfl|exact zO|exact zL rfl) [-List.reduceReplicate, c73_o12, size_mk, get_mk_lt, get_mk_ge, frameOf, Eff.app, Heap.setOwn, q, hQ]
  refine W.seq (W.chunk ?_)
  simp (disch := first|omega|exact zE rfl|exact zO|exact zL rfl) [-List.reduceReplicate, c73_o13, size_mk, get_mk_lt, get_mk_ge, frameOf, Eff.app, Heap.setOwn, q]
  refine W.seq (W.chunk ?_)
  simp (disch := first|omega|exact zE rfl|exact zO|exact zL rfl) [-List.reduceReplicate, c73_o14, size_mk, get_mk_lt, get_mk_ge, frameOf, Eff.app, Heap.setOwn, q, e3, e3', l3, hp, es, -evDraw_c, evDraw_0]
  refine W.seq (W.chunk ?_)
  simp (disch := first|omega|exact zE rfl|exact zO|exact zL rfl) [-List.reduceReplicate, c73_o15, size_mk, get_mk_lt, get_mk_ge, frameOf, Eff.app, Heap.setOwn, q, e4, e4', l5]
  refine W.chunk ?_
  simp (disch := first|omega|exact zE rfl|exact zO|exact zL rfl) [-List.reduceReplicate, c73_o16, size_mk, get_mk_lt, get_mk_ge, frameOf, Eff.app, Heap.setOwn, q, hcz, ez, l4]
  exact kR _ _ (by simp [T.get, q])
theorem c73_st (J : CallF) (h : Heap) {k n i j : Nat} {cm cx cy c0 c1 cz : List AV} {a b D p Q : Int} (P : P73 k n i j cx cy c0 c1 cz a b D p Q) (big : ¬ 1152921504606846976 < p) (big2 : ¬ 1152921504606846976 < D + p) :
    Tr tbl J (.trim [[false, false], [true, false], [false, true], [true, true], [true, false, false], [false, true, false], [true, true, false], [false, false, false, false], [true, false, false, false], [true, false, true, false], [false, true, true, false], [false, true, false, true], [true, true, false, true]] c73_b0) (fun s h' => h' = ⟨h.get, h.size, [.cells 0 65 cm, .cells 0 64 cx, .cells 0 64 cy, .cells 0 64 cz, .cells 0 64 c0]⟩ ∧ s.get [false, false] = .ptr h.size 0 65 ∧ s.get [true, false] = .ptr (h.size + 1) 0 64 ∧ s.get [false, true] = .ptr (h.size + 2) 0 64 ∧ s.get [true, true] = .ptr (h.size + 3) 0 64 ∧ s.get [true, false, false] = .ptr (h.size + 4) 0 64 ∧ s.get [false, true, false] = G i ∧ s.get [true, true, false] = G j ∧ s.get [false, false, false, false] = G n ∧ s.get [true, false, false, false] = G i ∧ s.get [true, false, true, false] = G n ∧ s.get [false, true, true, false] = G j ∧ s.get [false, true, false, true] = G n ∧ s.get [true, true, false, true] = G k) .normal
      (fun s h' => h' = ⟨h.get, h.size, [.cells 0 65 cm, .cells 0 64 cx, .cells 0 64 cy, .cells 0 64 cz, .cells 0 64 c1]⟩ ∧ s.get [false, false] = .ptr h.size 0 65 ∧ s.get [true, false] = .ptr (h.size + 1) 0 64 ∧ s.get [false, true] = .ptr (h.size + 2) 0 64 ∧ s.get [true, true] = .ptr (h.size + 3) 0 64 ∧ s.get [true, false, false] = .ptr (h.size + 4) 0 64 ∧ s.get [false, true, false] = G i ∧ s.get [true, true, false] = G j ∧ s.get [false, false, false, false] = G n ∧ s.get [true, false, false, false] = G i ∧ s.get [true, false, true, false] = G n ∧ s.get [false, true, true, false] = G j ∧ s.get [false, true, false, true] = G n ∧ s.get [true, true, false, true] = G ((k + 1 : Nat) : Int)) := by
  obtain ⟨hk, e1, e2, e3, e4, es, l3, l5, l4, ha, hb, hD, hp, hp0, hQ, hQ0, hq, hb0⟩ := P
  have e1' := getI e1
  have e2' := getI e2
  have e3' := getI e3
  have e4' := getI e4
  by_cases bp : 0 < b
  · have hlt := (hq bp).1
    have hle : a ≤ Q := by
      rcases Int.lt_or_le Q a with c | c
      · have := hlt c; omega
      · exact c
    clear hq hlt
    refine Tr.w fun s1 H1 hp R kR => W.trim ?_
    obtain ⟨rfl, q⟩ := hp
    refine W.seq (W.chunk ?_)
    simp (disch := first|omega|exact zE rfl|exact zO|exact zL rfl) [c73_o9, size_mk, get_mk_lt, get_mk_ge, frameOf, Eff.app, Heap.setOwn, q]
    refine W.seq (W.chunk ?_)
    simp (disch := first|omega|exact zE rfl|exact zO|exact zL rfl) [size_mk, get_mk_lt, get_mk_ge, frameOf, Eff.app, Heap.setOwn, q]
    refine W.seq (W.block ?_)
    refine W.seq (W.chunk ?_)
    simp (disch := first|omega|exact zE rfl|exact zO|exact zL rfl) [c73_o10, size_mk, get_mk_lt, get_mk_ge, frameOf, Eff.app, Heap.setOwn, q]
    refine W.seq (W.chunk ?_)
    simp (disch := first|omega|exact zE rfl|exact zO|exact zL rfl) [c73_o11, size_mk, get_mk_lt, get_mk_ge, frameOf, Eff.app, Heap.setOwn, q, e1, e1', e2, e2', -evDraw_c, evDraw_0]
    refine W.assoc ?_
    refine W.seq (W.chunk ?_)
    simp (disch := first|omega|exact zE rfl|exact zO|exact zL rfl) [c73_o12, size_mk, get_mk_lt, get_mk_ge, frameOf, Eff.app, Heap.setOwn, q, hQ]
    refine W.seq (W.chunk ?_)
    simp (disch := first|omega|exact zE rfl|exact zO|exact zL rfl) [c73_o13, size_mk, get_mk_lt, get_mk_ge, frameOf, Eff.app, Heap.setOwn, q]
    refine W.seq (W.chunk ?_)
    simp (disch := first|omega|exact zE rfl|exact zO|exact zL rfl) [c73_o14, size_mk, get_mk_lt, get_mk_ge, frameOf, Eff.app, Heap.setOwn, q, e3, e3', l3, hp, es, -evDraw_c, evDraw_0]
    refine W.seq (W.chunk ?_)
    simp (disch := first|omega|exact zE rfl|exact zO|exact zL rfl) [c73_o15, size_mk, get_mk_lt, get_mk_ge, frameOf, Eff.app, Heap.setOwn, q, e4, e4', l5]
    refine W.chunk ?_
    simp (disch := first|omega|exact zE rfl|exact zO|exact zL rfl) [c73_o16, size_mk, get_mk_lt, get_mk_ge, frameOf, Eff.app, Heap.setOwn, q]
    refine W.chunk ?_
    simp (disch := first|omega|exact zE rfl|exact zO|exact zL rfl) [c73_o17, size_mk, get_mk_lt, get_mk_ge, frameOf, Eff.app, Heap.setOwn, q]
    exact kR _ _ (by simp [T.get, q])
  · refine Tr.w fun s1 H1 hp R kR => W.trim ?_
    obtain ⟨rfl, q⟩ := hp
    refine W.seq (W.chunk ?_)
    simp (disch := first|omega|exact zE rfl|exact zO|exact zL rfl) [c73_o9, size_mk, get_mk_lt, get_mk_ge, frameOf, Eff.app, Heap.setOwn, q]
    refine W.seq (W.chunk ?_)
    simp (disch := first|omega|exact zE rfl|exact zO|exact zL rfl) [size_mk, get_mk_lt, get_mk_ge, frameOf, Eff.app, Heap.setOwn, q]
    refine W.seq (W.block ?_)
    refine W.seq (W.chunk ?_)
    simp (disch := first|omega|exact zE rfl|exact zO|exact zL rfl) [c73_o10, size_mk, get_mk_lt, get_mk_ge, frameOf, Eff.app, Heap.setOwn, q]
    refine W.seq (W.chunk ?_)
    simp (disch := first|omega|exact zE rfl|exact zO|exact zL rfl) [c73_o11, size_mk, get_mk_lt, get_mk_ge, frameOf, Eff.app, Heap.setOwn, q, e1, e1', e2, e2', -evDraw_c, evDraw_0]
    refine W.assoc ?_
    refine W.seq (W.chunk ?_)
    simp (disch := first|omega|exact zE rfl|exact zO|exact zL rfl) [c73_o12, size_mk, get_mk_lt, get_mk_ge, frameOf, Eff.app, Heap.setOwn, q, hQ]
    refine W.seq (W.chunk ?_)
    simp (disch := first|omega|exact zE rfl|exact zO|exact zL rfl) [c73_o13, size_mk, get_mk_lt, get_mk_ge, frameOf, Eff.app, Heap.setOwn, q]
    refine W.seq (W.chunk ?_)
    simp (disch := first|omega|exact zE rfl|exact zO|exact zL rfl) [c73_o14, size_mk, get_mk_lt, get_mk_ge, frameOf, Eff.app, Heap.setOwn, q, e3, e3', l3, hp, es, -evDraw_c, evDraw_0]
    refine W.seq (W.chunk ?_)
    simp (disch := first|omega|exact zE rfl|exact zO|exact zL rfl) [c73_o15, size_mk, get_mk_lt, get_mk_ge, frameOf, Eff.app, Heap.setOwn, q, e4, e4', l5]
    refine W.chunk ?_
    simp (disch := first|omega|exact zE rfl|exact zO|exact zL rfl) [c73_o16, size_mk, get_mk_lt, get_mk_ge, frameOf, Eff.app, Heap.setOwn, q]
    refine W.chunk ?_
    simp (disch := first|omega|exact zE rfl|exact zO|exact zL rfl) [c73_o17, size_mk, get_mk_lt, get_mk_ge, frameOf, Eff.app, Heap.setOwn, q]
    exact kR _ _ (by simp [T.get, q])
theorem c73_k (J : CallF) (h : Heap) (hm : isMat M = true) {X : Nat → Int} (hX : ∀ x, 0 ≤ X x ∧ X x ≤ mostP) {i j : Nat} (hi : i < M.length) (hj : j < M.length) : ∀ d k, k + d = M.length → dt M X i j k ≤ mostP →
    (dt M X i j M.length ≤ mostP → Tr tbl J c73_l0 (fun s h' => h' = HP h M X (oP M X i j k) ∧ s.get [false, false] = .ptr h.size 0 65 ∧ s.get [true, false] = .ptr (h.size + 1) 0 64 ∧ s.get [false, true] = .ptr (h.size + 2) 0 64 ∧ s.get [true, true] = .ptr (h.size + 3) 0 64 ∧ s.get [true, false, false] = .ptr (h.size + 4) 0 64 ∧ s.get [false, true, false] = G i ∧ s.get [true, true, false] = G j ∧ s.get [false, false, false, false] = G M.length ∧ s.get [true, false, false, false] = G i ∧ s.get [true, false, true, false] = G M.length ∧ s.get [false, true, true, false] = G j ∧ s.get [false, true, false, true] = G M.length ∧ s.get [true, true, false, true] = G k) (.exit 4) (fun s h' => h' = HP h M X (oP M X i j M.length) ∧ s.get [false, false] = .ptr h.size 0 65 ∧ s.get [true, false] = .ptr (h.size + 1) 0 64 ∧ s.get [false, true] = .ptr (h.size + 2) 0 64 ∧ s.get [true, true] = .ptr (h.size + 3) 0 64 ∧ s.get [true, false, false] = .ptr (h.size + 4) 0 64 ∧ s.get [false, true, false] = G i ∧ s.get [false, false, false, false] = G M.length ∧ s.get [true, false, false, false] = G i ∧ s.get [true, false, true, false] = G M.length ∧ s.get [false, true, true, false] = G j)) ∧
    (mostP < dt M X i j M.length → Tr tbl J c73_l0 (fun s h' => h' = HP h M X (oP M X i j k) ∧ s.get [false, false] = .ptr h.size 0 65 ∧ s.get [true, false] = .ptr (h.size + 1) 0 64 ∧ s.get [false, true] = .ptr (h.size + 2) 0 64 ∧ s.get [true, true] = .ptr (h.size + 3) 0 64 ∧ s.get [true, false, false] = .ptr (h.size + 4) 0 64 ∧ s.get [false, true, false] = G i ∧ s.get [true, true, false] = G j ∧ s.get [false, false, false, false] = G M.length ∧ s.get [true, false, false, false] = G i ∧ s.get [true, false, true, false] = G M.length ∧ s.get [false, true, true, false] = G j ∧ s.get [false, true, false, true] = G M.length ∧ s.get [true, true, false, true] = G k) .ret (fun s h' => (∃ f, h' = HP h M X f) ∧ s.get [true, true] = .ptr (h.size + 3) 0 64 ∧ s.get [false, false, false] = .bool false)) := by
  have h8 := isMat_n hm
  intro d
  induction d with
  | zero =>
    intro k hk hd
    obtain rfl : k = M.length := by omega
    refine ⟨fun _ => Tr.out ?_ (by simp), fun c => by omega⟩
    simp only [HP]
    generalize M.length = n at *
    refine Tr.w fun s1 H1 hp R kR => W.trim ?_
    obtain ⟨rfl, q⟩ := hp
    refine W.seq (W.chunk ?_)
    simp (disch := first|omega|exact zE rfl|exact zO|exact zL rfl) [c73_o9, size_mk, get_mk_lt, get_mk_ge, frameOf, Eff.app, Heap.setOwn, q]
    refine W.seq (W.chunk ?_)
    simp (disch := first|omega|exact zE rfl|exact zO|exact zL rfl) [size_mk, get_mk_lt, get_mk_ge, frameOf, Eff.app, Heap.setOwn, q]
    exact kR _ _ (by simp [T.get, q])
  | succ d ih =>
    intro k hk hd
    have nn := dt_nn hm (fun x => (hX x).1) i j k
    have hmp : mostP = 1152921504606846976 := rfl
    have mono := dt_mono hm (fun x => (hX x).1) i j d (k + 1)
    rw [show k + 1 + d = M.length by omega] at mono
    have ds : dt M X i j (k + 1) = dt M X i j k + X (i * 8 + k) * ent M k j := rfl
    have ih := ih (k + 1) (by omega)
    have hx := hX (i * 8 + k)
    have hb := ent_bd hm k j
    have P : P73 k M.length i j (sq X) (sq (entS M)) (sq (oP M X i j k)) (sq (oP M X i j (k + 1))) (sq fun _ => 0) (X (i * 8 + k)) (ent M k j) (dt M X i j k) (X (i * 8 + k) * ent M k j) (mostP / ent M k j) := {
      hk := by omega
      e1 := sq_get X (by omega) rfl
      e2 := sq_get (entS M) (by omega) (by unfold entS; rw [show (k * 8 + j) / 8 = k by omega, show (k * 8 + j) % 8 = j by omega])
      e3 := sq_get _ (by omega) (oP_at (by omega))
      e4 := sq_get _ (by omega) (oP_at (by omega))
      es := oP_set (by omega) (by omega)
      l3 := sq_len _
      l5 := sq_len _
      hz := sq_len _
      ha := hx
      hb := hb
      hD := ⟨nn, hd⟩
      hp := rfl
      hp0 := Int.mul_nonneg hx.1 hb.1
      hQ := rfl
      hQ0 := ⟨Int.ediv_nonneg (by decide) hb.1, Int.ediv_le_self _ (by decide)⟩
      hq := fun c => by
        have := Int.le_ediv_iff_mul_le (a := X (i * 8 + k)) (b := mostP) c
        constructor
        · intro q
          apply Int.lt_of_not_ge
          intro q2
          have := this.2 q2
          omega
        · intro q
          apply Int.lt_of_not_ge
          intro q2
          have := this.1 q2
          omega
      hb0 := fun c => by rw [c, Int.mul_zero] }
    have hp0 := P.hp0
    rw [ds] at mono
    rw [ds] at ih
    have rp := sq_rep
    have ez : putAt (sq fun _ => 0) 0 (sq fun _ => 0) = sq fun _ => 0 := putAt_all _ _ rfl
    by_cases big : mostP < X (i * 8 + k) * ent M k j
    · have big' : mostP < dt M X i j M.length := by omega
      exact ⟨fun c => absurd big' (Int.not_lt.2 c), fun _ => Tr.out (Tr.post (fun s h' q => ⟨⟨_, q.1⟩, q.2⟩) (c73_f1 J h P ez rp big)) (by simp)⟩
    · by_cases big2 : mostP < dt M X i j k + X (i * 8 + k) * ent M k j
      · have big' : mostP < dt M X i j M.length := by omega
        exact ⟨fun c => absurd big' (Int.not_lt.2 c), fun _ => Tr.out (Tr.post (fun s h' q => ⟨⟨_, q.1⟩, q.2⟩) (c73_f2 J h P ez rp big big2)) (by simp)⟩
      · obtain ⟨ih1, ih2⟩ := ih (Int.not_lt.1 big2)
        have step := c73_st (cm := matC M) J h P big big2
        exact ⟨fun q => Tr.next step (ih1 q), fun q => Tr.next step (ih2 q)⟩
end
end Go.Proofs.Ytjeemgaoonapgaa.Ev
