/-
  Power. No condition.
-/
import Derived.Test.YtjeemgaoonapgaaRPow3
set_option linter.unusedVariables false
set_option linter.unusedSimpArgs false
namespace Go.Proofs.Ytjeemgaoonapgaa.Ev
open Go Go.AEv

attribute [local simp] evFunc initS evOps_c evTrim_c evSkip_c evExit_c evRet_c evSeq_c evCond_c evBlock_c evDraw_c runOps_n runOps_c exec_n exec_g pure1_c act AOpd.ev T.get T.set T.put evBin evUn forceT_eq forceV_eq forceL_eq evRess evRes one keep runFP_n runFP_c app_none AV.flats AV.flat came_some List.getElem?_cons_zero List.getElem?_cons_succ beqT wrapI idxI tdivI tmodI decT decF ibT ibF inT inF evScope_c if_pos if_neg Cm_some thenW_n thenW_e thenW_r blkW_n blkW_e blkW_r goI kn putAt AV.cells fillA loadA takeA mk Eff.isAll Eff.isNone Eff.commutes Eff.spares okPair apart eqAgg fits LK.fits allEq aveq eqk mmA

/-! ### What is known -/
def Pre72 (M : List (List Int)) (args : List AV) (h : Heap) : Prop := isMat M = true ∧ args = [.agg (matC M)]
def Post72 (M : List (List Int)) (h : Heap) (v : AV) (own : List AObj) : Prop := v = .agg (sq (onF M.length)) ∧ own = []
noncomputable def T13 : CallF := addK tbl T12 72 Pre72 Post72
theorem t13 : Sound Go.Proofs.Try.prog T13 := Sound.addK follows ok t12 (by decide) _ _
abbrev K72 (J : CallF) : Prop := ∀ (h : Heap) (M : List (List Int)), isMat M = true → J 72 [.agg (matC M)] h = some (.agg (sq (onF M.length)), [], false)
theorem k72 : K72 T13 := fun h M hm => by
  obtain ⟨v, own, e, rfl, rfl⟩ := addK_some (tbl := tbl) (I := T12) (f := 72) (Pre := Pre72) (Post := Post72) (fun M args h hp => by
    obtain ⟨hm, rfl⟩ := hp
    exact ⟨_, _, c72_ok T12 (fun _ _ => by simp (disch := decide) only [T12, T11, T10, T9, T8, T7, T6, T5, T4, T3, T2, T1, R21, R20, R19, R18, R17, R16, R15, R14, R13, R12, R11, R10, R9, R8, R7, R6, R5, R4, R3, R2, R1, addI_ne, addX_ne, addV_ne, addK_ne]; rfl) h hm, rfl, rfl⟩) M _ h ⟨hm, rfl⟩
  exact e
structure A73 where
  M : List (List Int)
  X : Nat → Int
def Ok73 (a : A73) : Prop := isMat a.M = true ∧ ∀ x, 0 ≤ a.X x ∧ a.X x ≤ mostP
open Classical in
noncomputable def v73 (a : A73) : AV := if prOk a.M a.X 0 then .tup [.agg (sq (prF a.M a.X)), .bool true] else .tup [.agg (sq fun _ => 0), .bool false]
def Pre73 (a : A73) (args : List AV) (h : Heap) : Prop := Ok73 a ∧ args = [.agg (matC a.M), .agg (sq a.X), .agg (sq (entS a.M))]
def Post73 (a : A73) (h : Heap) (v : AV) (own : List AObj) : Prop := v = v73 a ∧ own = []
noncomputable def T14 : CallF := addK tbl T13 73 Pre73 Post73
theorem t14 : Sound Go.Proofs.Try.prog T14 := Sound.addK follows ok t13 (by decide) _ _
abbrev K73 (J : CallF) : Prop := ∀ (h : Heap) (a : A73), Ok73 a → J 73 [.agg (matC a.M), .agg (sq a.X), .agg (sq (entS a.M))] h = some (v73 a, [], false)
theorem k73 : K73 T14 := fun h a ha => by
  obtain ⟨v, own, e, rfl, rfl⟩ := addK_some (tbl := tbl) (I := T13) (f := 73) (Pre := Pre73) (Post := Post73) (fun a args h hp => by
    obtain ⟨⟨hm, hX⟩, rfl⟩ := hp
    exact ⟨_, _, c73_ok T13 (fun _ _ => by simp (disch := decide) only [T13, T12, T11, T10, T9, T8, T7, T6, T5, T4, T3, T2, T1, R21, R20, R19, R18, R17, R16, R15, R14, R13, R12, R11, R10, R9, R8, R7, R6, R5, R4, R3, R2, R1, addI_ne, addX_ne, addV_ne, addK_ne]; rfl) h hm hX, rfl, rfl⟩) a _ h ⟨ha, rfl⟩
  exact e
def Pre74 (a : A73) (args : List AV) (h : Heap) : Prop := isMat a.M = true ∧ args = [.agg (matC a.M), .agg (sq a.X)]
def Post74 (a : A73) (h : Heap) (v : AV) (own : List AObj) : Prop := TB h (h.plus own) v ((List.range a.M.length).map fun i => gs (rwL a.X a.M.length i))
noncomputable def T15 : CallF := addK tbl T14 74 Pre74 Post74
theorem t15 : Sound Go.Proofs.Try.prog T15 := Sound.addK follows ok t14 (by decide) _ _
abbrev K74 (J : CallF) : Prop := ∀ (h : Heap) (a : A73), isMat a.M = true → ∃ v own, J 74 [.agg (matC a.M), .agg (sq a.X)] h = some (v, own, false) ∧ TB h (h.plus own) v ((List.range a.M.length).map fun i => gs (rwL a.X a.M.length i))
theorem k79_14 : K79 T14 := fun h a ha => by
  simp (disch := decide) only [T14, T13, addK_ne]
  exact k79 h a ha
theorem k74 : K74 T15 := fun h a ha => addK_some (tbl := tbl) (I := T14) (f := 74) (Pre := Pre74) (Post := Post74) (fun a args h hp => by
    obtain ⟨hm, rfl⟩ := hp
    exact c74_ok T14 k79_14 (fun _ _ => by simp (disch := decide) only [T14, T13, T12, T11, T10, T9, T8, T7, T6, T5, T4, T3, T2, T1, R21, R20, R19, R18, R17, R16, R15, R14, R13, R12, R11, R10, R9, R8, R7, R6, R5, R4, R3, R2, R1, addI_ne, addX_ne, addV_ne, addK_ne]; rfl) h hm a.X) a _ h ⟨ha, rfl⟩

/-! ### Power -/
section
variable {M : List (List Int)} {y : AV}
def pwX (M : List (List Int)) : Nat → Nat → Int
  | 0 => onF M.length
  | k + 1 => prF M (pwX M k)
def okP (M : List (List Int)) (k : Nat) : Prop := ∀ m, m < k → prOk M (pwX M m) 0
theorem okP_s {k : Nat} : okP M (k + 1) ↔ okP M k ∧ prOk M (pwX M k) 0 := by
  constructor
  · intro h; exact ⟨fun m hm => h m (by omega), h k (by omega)⟩
  · rintro ⟨a, b⟩ m hm
    by_cases e : m = k
    · subst e; exact b
    · exact a m (by omega)
theorem pwX_bd (hm : isMat M = true) : ∀ {k : Nat}, okP M k → ∀ x, 0 ≤ pwX M k x ∧ pwX M k x ≤ mostP
  | 0, _, x => by
    show 0 ≤ onF M.length x ∧ onF M.length x ≤ mostP
    unfold onF
    split <;> decide
  | k + 1, h, x => by
    have ih := pwX_bd hm (okP_s.1 h).1
    have hk := (okP_s.1 h).2
    show 0 ≤ prF M (pwX M k) x ∧ prF M (pwX M k) x ≤ mostP
    unfold prF
    by_cases c : x / 8 < M.length
    · rw [if_pos c]
      refine ⟨dt_nn hm (fun x => (ih x).1) _ _ _, ?_⟩
      by_cases c2 : x % 8 < M.length
      · exact hk _ (Nat.zero_le _) c _ (Nat.zero_le _) c2
      · rw [dt_out hm _ _ (by omega)]; decide
    · rw [if_neg c]; exact ⟨Int.le_refl _, by decide⟩
def HQ (h : Heap) (M : List (List Int)) (f : Nat → Int) : Heap := ⟨h.get, h.size, [.cells 0 65 (matC M), .cells 0 64 (sq f)]⟩
theorem mat_tail (M : List (List Int)) : ((matC M).drop 1).take 64 = sq (entS M) := by
  show (sq (fun x => ent M (x / 8) (x % 8))).take 64 = _
  exact List.take_of_length_le (by rw [sq_len]; exact Nat.le_refl _)
theorem c43_l (J : CallF) (k73 : K73 J) (h : Heap) (hm : isMat M = true) {k : Nat} (hk : k ≤ 100) : ∀ d m, m + d = k → okP M m →
    (okP M k → Tr tbl J c43_l0 (fun s h' => h' = HQ h M (pwX M m) ∧ s.get [true, true] = .ptr h.size 0 65 ∧ s.get [true, false, false] = .ptr (h.size + 1) 0 64 ∧ s.get [false, false, false, true] = G k ∧ s.get [true, false, false, true] = G m) (.exit 0) (fun s h' => h' = HQ h M (pwX M k) ∧ s.get [true, true] = .ptr h.size 0 65 ∧ s.get [true, false, false] = .ptr (h.size + 1) 0 64)) ∧
    (¬ okP M k → Tr tbl J c43_l0 (fun s h' => h' = HQ h M (pwX M m) ∧ s.get [true, true] = .ptr h.size 0 65 ∧ s.get [true, false, false] = .ptr (h.size + 1) 0 64 ∧ s.get [false, false, false, true] = G k ∧ s.get [true, false, false, true] = G m) .ret (fun s h => s.get [true, false] = .nils ∧ s.get [false, true] = G 5)) := by
  intro d
  induction d with
  | zero =>
    intro m hmk ho
    obtain rfl : m = k := by omega
    refine ⟨fun _ => Tr.out ?_ (by simp), fun c => absurd ho c⟩
    simp only [HQ]
    refine Tr.w fun s1 H1 hp R kR => W.trim ?_
    obtain ⟨rfl, q⟩ := hp
    refine W.seq (W.chunk ?_)
    simp (disch := first | omega | exact getEq rfl | exact getO0 | exact Nat.le_of_ble_eq_true rfl) [c43_o6, size_mk, get_mk_lt, get_mk_ge, frameOf, Eff.app, Heap.setOwn, q]
    refine W.seq (W.chunk ?_)
    simp (disch := first | omega | exact getEq rfl | exact getO0 | exact Nat.le_of_ble_eq_true rfl) [size_mk, get_mk_lt, get_mk_ge, frameOf, Eff.app, Heap.setOwn, q]
    exact kR _ _ (by simp [T.get, q])
  | succ d ih =>
    intro m hmk ho
    have kk := k73 ⟨h.get, h.size, [.cells 0 65 (matC M), .cells 0 64 (sq (pwX M m))]⟩ ⟨M, pwX M m⟩ ⟨hm, pwX_bd hm ho⟩
    simp only at kk
    have et : (matC M).take 65 = matC M := List.take_of_length_le (by rw [matC_len]; exact Nat.le_refl _)
    have et2 := mat_tail M
    have et2' : (matC M).tail.take 64 = sq (entS M) := by rw [← List.drop_one]; exact et2
    have et3 : (sq (pwX M m)).take 64 = sq (pwX M m) := List.take_of_length_le (by rw [sq_len]; exact Nat.le_refl _)
    have lm := matC_len M
    have l1 := sq_len (pwX M m)
    have l3 := sq_len (entS M)
    by_cases c : prOk M (pwX M m) 0
    · obtain ⟨ih1, ih2⟩ := ih (m + 1) (by omega) (okP_s.2 ⟨ho, c⟩)
      rw [show v73 ⟨M, pwX M m⟩ = .tup [.agg (sq (pwX M (m + 1))), .bool true] from if_pos c] at kk
      have l2 := sq_len (pwX M (m + 1))
      have ep : putAt (sq (pwX M m)) 0 (sq (pwX M (m + 1))) = sq (pwX M (m + 1)) := putAt_all _ _ (by omega)
      have step : Tr tbl J (.trim [[true, true], [true, false, false], [false, false, false, true], [true, false, false, true]] c43_b0) (fun s h' => h' = HQ h M (pwX M m) ∧ s.get [true, true] = .ptr h.size 0 65 ∧ s.get [true, false, false] = .ptr (h.size + 1) 0 64 ∧ s.get [false, false, false, true] = G k ∧ s.get [true, false, false, true] = G m) .normal (fun s h' => h' = HQ h M (pwX M (m + 1)) ∧ s.get [true, true] = .ptr h.size 0 65 ∧ s.get [true, false, false] = .ptr (h.size + 1) 0 64 ∧ s.get [false, false, false, true] = G k ∧ s.get [true, false, false, true] = G ((m + 1 : Nat) : Int)) := by
        simp only [HQ]
        clear ih1 ih2 ih
        generalize sq (pwX M (m + 1)) = c1 at *
        generalize sq (pwX M m) = c0 at *
        generalize sq (entS M) = cy at *
        generalize matC M = cm at *
        refine Tr.w fun s1 H1 hp R kR => W.trim ?_
        obtain ⟨rfl, q⟩ := hp
        refine W.seq (W.chunk ?_)
        simp (disch := first | omega | exact getEq rfl | exact getO0 | exact Nat.le_of_ble_eq_true rfl) [c43_o6, size_mk, get_mk_lt, get_mk_ge, frameOf, Eff.app, Heap.setOwn, q]
        refine W.seq (W.chunk ?_)
        simp (disch := first | omega | exact getEq rfl | exact getO0 | exact Nat.le_of_ble_eq_true rfl) [size_mk, get_mk_lt, get_mk_ge, frameOf, Eff.app, Heap.setOwn, q]
        refine W.seq (W.block ?_)
        refine W.seq (W.chunk ?_)
        simp (disch := first | omega | exact getEq rfl | exact getO0 | exact Nat.le_of_ble_eq_true rfl) [c43_o7, size_mk, get_mk_lt, get_mk_ge, frameOf, Eff.app, Heap.setOwn, q, et, et2, et3, lm, l1, l2, l3, kk, ep, et2']
        refine W.seq (W.chunk ?_)
        simp (disch := first | omega | exact getEq rfl | exact getO0 | exact Nat.le_of_ble_eq_true rfl) [c43_o8, size_mk, get_mk_lt, get_mk_ge, frameOf, Eff.app, Heap.setOwn, q]
        refine W.chunk ?_
        simp (disch := first | omega | exact getEq rfl | exact getO0 | exact Nat.le_of_ble_eq_true rfl) [c43_o9, size_mk, get_mk_lt, get_mk_ge, frameOf, Eff.app, Heap.setOwn, q]
        refine W.chunk ?_
        simp (disch := first | omega | exact getEq rfl | exact getO0 | exact Nat.le_of_ble_eq_true rfl) [c43_o10, size_mk, get_mk_lt, get_mk_ge, frameOf, Eff.app, Heap.setOwn, q]
        exact kR _ _ (by simp [T.get, q])
      exact ⟨fun q => Tr.next step (ih1 q), fun q => Tr.next step (ih2 q)⟩
    · rw [show v73 ⟨M, pwX M m⟩ = .tup [.agg (sq fun _ => 0), .bool false] from if_neg c] at kk
      have l2 := sq_len (fun _ => 0)
      have ep : putAt (sq (pwX M m)) 0 (sq fun _ => 0) = sq fun _ => 0 := putAt_all _ _ (by omega)
      refine ⟨fun q => absurd (q m (by omega)) c, fun _ => Tr.out ?_ (by simp)⟩
      simp only [HQ]
      generalize (sq fun _ => 0) = c1 at *
      generalize sq (pwX M m) = c0 at *
      generalize sq (entS M) = cy at *
      generalize matC M = cm at *
      refine Tr.w fun s1 H1 hp R kR => W.trim ?_
      obtain ⟨rfl, q⟩ := hp
      refine W.seq (W.chunk ?_)
      simp (disch := first | omega | exact getEq rfl | exact getO0 | exact Nat.le_of_ble_eq_true rfl) [c43_o6, size_mk, get_mk_lt, get_mk_ge, frameOf, Eff.app, Heap.setOwn, q]
      refine W.seq (W.chunk ?_)
      simp (disch := first | omega | exact getEq rfl | exact getO0 | exact Nat.le_of_ble_eq_true rfl) [size_mk, get_mk_lt, get_mk_ge, frameOf, Eff.app, Heap.setOwn, q]
      refine W.seq (W.block ?_)
      refine W.seq (W.chunk ?_)
      simp (disch := first | omega | exact getEq rfl | exact getO0 | exact Nat.le_of_ble_eq_true rfl) [c43_o7, size_mk, get_mk_lt, get_mk_ge, frameOf, Eff.app, Heap.setOwn, q, et, et2, et3, lm, l1, l2, l3, kk, ep, et2']
      refine W.seq (W.chunk ?_)
      simp (disch := first | omega | exact getEq rfl | exact getO0 | exact Nat.le_of_ble_eq_true rfl) [c43_o8, size_mk, get_mk_lt, get_mk_ge, frameOf, Eff.app, Heap.setOwn, q]
      refine W.chunk ?_
      simp (disch := first | omega | exact getEq rfl | exact getO0 | exact Nat.le_of_ble_eq_true rfl) [c43_o9, size_mk, get_mk_lt, get_mk_ge, frameOf, Eff.app, Heap.setOwn, q]
      exact kR _ _ (by simp [T.get, q])
theorem c43_bad (J : CallF) (k54 : K54 J) (k57 : K57 J) (hJ : ∀ a h, J 43 a h = none) (h : Heap) (hy : MR h y M) {k : Int} (hb : ¬ (isMat M = true ∧ 0 ≤ k ∧ k ≤ 100)) : CallsTo tbl J 43 [y, G k] h (.tup [.nils, G 2], [], false) := by
  refine Tr.fnv (cf := c43) (e := .ret) (s := T.set (T.set .leaf [] y) [false] (G k)) (by decide) rfl (hJ _ _) rfl rfl rfl (by simp) ?_
  obtain ⟨cs, k54, hl, hc⟩ := k54 ⟨h.get, h.size, []⟩ y M (hy.lo [])
  have rp : (List.replicate 65 (AV.int .i64 0)).length = 65 := List.length_replicate
  have ep : putAt (List.replicate 65 (AV.int .i64 0)) 0 cs = cs := putAt_all _ _ (by omega)
  refine Tr.w fun s1 H1 hp R kR => ?_
  obtain ⟨rfl, rfl⟩ := hp
  have q : True := trivial
  have fin : ∀ s h', s.get [true, false] = .nils → s.get [false, true] = G 2 → R .ret s h' := fun s h' a b => kR _ _ ⟨[.nils, G 2], by simp [c43, evRess, evRes, a, b], rfl⟩
  have kk := fun h => k57 k 0 100 h
  generalize hZ : List.replicate 65 (AV.int .i64 0) = Z at *
  clear hc
  cases hm : isMat M
  · rw [hm] at k54
    refine W.seq (W.chunk ?_)
    simp (disch := first | omega | exact getEq rfl | exact getO0 | exact Nat.le_of_ble_eq_true rfl) [-List.reduceReplicate, c43_o0, size_mk, get_mk_lt, get_mk_ge, frameOf, Eff.app, Heap.setOwn, q]
    refine W.seq (W.chunk ?_)
    simp (disch := first | omega | exact getEq rfl | exact getO0 | exact Nat.le_of_ble_eq_true rfl) [-List.reduceReplicate, c43_o1, size_mk, get_mk_lt, get_mk_ge, frameOf, Eff.app, Heap.setOwn, q, k54, hZ, ep, rp, hl, frameOf]
    refine W.assoc ?_
    refine W.seq (W.chunk ?_)
    simp (disch := first | omega | exact getEq rfl | exact getO0 | exact Nat.le_of_ble_eq_true rfl) [-List.reduceReplicate, c43_o2, size_mk, get_mk_lt, get_mk_ge, frameOf, Eff.app, Heap.setOwn, q]
    refine W.seq (W.chunk ?_)
    simp (disch := first | omega | exact getEq rfl | exact getO0 | exact Nat.le_of_ble_eq_true rfl) [-List.reduceReplicate, c43_o3, size_mk, get_mk_lt, get_mk_ge, frameOf, Eff.app, Heap.setOwn, q]
    exact fin _ _ (by simp [T.get]) (by simp [T.get])
  · rw [hm] at k54
    simp only [hm, true_and] at hb
    refine W.seq (W.chunk ?_)
    simp (disch := first | omega | exact getEq rfl | exact getO0 | exact Nat.le_of_ble_eq_true rfl) [-List.reduceReplicate, c43_o0, size_mk, get_mk_lt, get_mk_ge, frameOf, Eff.app, Heap.setOwn, q]
    refine W.seq (W.chunk ?_)
    simp (disch := first | omega | exact getEq rfl | exact getO0 | exact Nat.le_of_ble_eq_true rfl) [-List.reduceReplicate, c43_o1, size_mk, get_mk_lt, get_mk_ge, frameOf, Eff.app, Heap.setOwn, q, k54, hZ, ep, rp, hl, frameOf]
    refine W.assoc ?_
    refine W.seq (W.chunk ?_)
    simp (disch := first | omega | exact getEq rfl | exact getO0 | exact Nat.le_of_ble_eq_true rfl) [-List.reduceReplicate, c43_o2, size_mk, get_mk_lt, get_mk_ge, frameOf, Eff.app, Heap.setOwn, q, kk]
    refine W.seq (W.chunk ?_)
    simp (disch := first | omega | exact getEq rfl | exact getO0 | exact Nat.le_of_ble_eq_true rfl) [-List.reduceReplicate, c43_o3, size_mk, get_mk_lt, get_mk_ge, frameOf, Eff.app, Heap.setOwn, q]
    exact fin _ _ (by simp [T.get]) (by simp [T.get])
/-- The rows of a power. -/
def pwL (M : List (List Int)) (k : Nat) : List (List Int) := (List.range M.length).map fun i => rwL (pwX M k) M.length i
theorem c43_ok (J : CallF) (k54 : K54 J) (k57 : K57 J) (k72 : K72 J) (k73 : K73 J) (k74 : K74 J) (hJ : ∀ a h, J 43 a h = none) (h : Heap) (hy : MR h y M) (hm : isMat M = true) {k : Nat} (hk : k ≤ 100) :
    ∃ v own, CallsTo tbl J 43 [y, G k] h (v, own, false) ∧ (¬ okP M k → v = .tup [.nils, G 5] ∧ own = []) ∧ (okP M k → ∃ w, v = .tup [w, G 0] ∧ TB h (h.plus own) w ((pwL M k).map gs)) := by
  refine Tr.fny (cf := c43) (e := .ret) (s := T.set (T.set .leaf [] y) [false] (G k)) (by decide) rfl (hJ _ _) rfl rfl (by simp) ?_
  obtain ⟨cs, k54, hl, hc⟩ := k54 ⟨h.get, h.size, []⟩ y M (hy.lo [])
  have rp : (List.replicate 65 (AV.int .i64 0)).length = 65 := List.length_replicate
  obtain rfl := hc hm
  have ep : putAt (List.replicate 65 (AV.int .i64 0)) 0 (matC M) = matC M := putAt_all _ _ (by omega)
  have h8 := isMat_n hm
  obtain ⟨l1, l2⟩ := c43_l J k73 h hm hk k 0 (by omega) (fun m hm => absurd hm (by omega))
  refine Tr.w fun s1 H1 hp R kR => ?_
  obtain ⟨rfl, rfl⟩ := hp
  have q : True := trivial
  have kk := fun h => k57 k 0 100 h
  have k72' := fun h => k72 h M hm
  have lo := sq_len (onF M.length)
  have lz := sq_len fun _ => 0
  have rs := sq_rep
  have ep2 : putAt (sq fun _ => 0) 0 (sq (onF M.length)) = sq (onF M.length) := putAt_all _ _ (by omega)
  have et : (matC M).take 65 = matC M := List.take_of_length_le (by omega)
  have rp2 : List.replicate 65 (AV.int .i64 0) = List.replicate 65 (AV.int .i64 0) := rfl
  generalize hZ : List.replicate 65 (AV.int .i64 0) = Z at *
  rw [hm] at k54
  by_cases c : okP M k
  · have l1 := l1 c
    obtain ⟨w, own, k74, tb⟩ := k74 ⟨h.get, h.size, [.cells 0 65 (matC M), .cells 0 64 (sq (pwX M k))]⟩ ⟨M, pwX M k⟩ hm
    simp only at k74
    have tb := tb.up
    have et3 : (sq (pwX M k)).take 64 = sq (pwX M k) := List.take_of_length_le (by rw [sq_len]; exact Nat.le_refl _)
    have l3 := sq_len (pwX M k)
    refine W.seq (W.chunk ?_)
    simp (disch := first | omega | exact getEq rfl | exact getO0 | exact Nat.le_of_ble_eq_true rfl) [-List.reduceReplicate, c43_o0, size_mk, get_mk_lt, get_mk_ge, frameOf, Eff.app, Heap.setOwn, q]
    refine W.seq (W.chunk ?_)
    simp (disch := first | omega | exact getEq rfl | exact getO0 | exact Nat.le_of_ble_eq_true rfl) [-List.reduceReplicate, c43_o1, size_mk, get_mk_lt, get_mk_ge, frameOf, Eff.app, Heap.setOwn, q, k54, hZ, ep, rp, hl, frameOf]
    refine W.assoc ?_
    refine W.seq (W.chunk ?_)
    simp (disch := first | omega | exact getEq rfl | exact getO0 | exact Nat.le_of_ble_eq_true rfl) [-List.reduceReplicate, c43_o2, size_mk, get_mk_lt, get_mk_ge, frameOf, Eff.app, Heap.setOwn, q, kk]
    refine W.seq (W.chunk ?_)
    simp (disch := first | omega | exact getEq rfl | exact getO0 | exact Nat.le_of_ble_eq_true rfl) [-List.reduceReplicate, c43_o3, size_mk, get_mk_lt, get_mk_ge, frameOf, Eff.app, Heap.setOwn, q]
    refine W.seq (W.chunk ?_)
    simp (disch := first | omega | exact getEq rfl | exact getO0 | exact Nat.le_of_ble_eq_true rfl) [-List.reduceReplicate, c43_o4, size_mk, get_mk_lt, get_mk_ge, frameOf, Eff.app, Heap.setOwn, q, et, hl, k72', lo, lz, rs, ep2]
    refine W.assoc ?_
    refine W.seq (W.chunk ?_)
    simp (disch := first | omega | exact getEq rfl | exact getO0 | exact Nat.le_of_ble_eq_true rfl) [-List.reduceReplicate, c43_o5, size_mk, get_mk_lt, get_mk_ge, frameOf, Eff.app, Heap.setOwn, q]
    refine W.seq (W.block ?_)
    refine W.use (l1) (by simp (disch := first | omega | exact getEq rfl | exact getO0 | exact Nat.le_of_ble_eq_true rfl) [-List.reduceReplicate, size_mk, get_mk_lt, get_mk_ge, frameOf, Eff.app, Heap.setOwn, q, HQ, pwX, hl, lo]) fun s1 H1 hp => ?_
    obtain ⟨rfl, q⟩ := hp
    try simp only [thenW_n, thenW_e, thenW_r, blkW_n, blkW_e, blkW_r, if_true]
    simp only [HQ]
    refine W.seq (W.chunk ?_)
    simp (disch := first | omega | exact getEq rfl | exact getO0 | exact Nat.le_of_ble_eq_true rfl) [-List.reduceReplicate, c43_o11, app_growP, app_noneP, plus_N, plus_at0, put_plus0, put_plus1, upd_N, upd_size, q, get_mk_ge, et, et3, hl, l3, k74, app_if, app_if']
    refine W.ret ?_
    try simp only [thenW_n, thenW_e, thenW_r, blkW_n, blkW_e, blkW_r, if_true]
    exact kR _ _ ⟨[w, G 0], by simp [T.get, c43, evRess, evRes], fun q => absurd c q, fun _ => ⟨w, rfl, by
      have e : ((pwL M k).map gs) = ((List.range M.length).map fun i => gs (rwL (pwX M k) M.length i)) := by unfold pwL; rw [List.map_map]; rfl
      rw [e]
      split
      · rename_i hf
        obtain ⟨rs', lv, hl', hr⟩ := tb.r
        rcases lv with ⟨rfl, rfl⟩ | ⟨b, rfl, g, n⟩
        · simp at hl'; omega
        · simp [one, AV.flat, AV.flats] at hf
      · exact tb.fr⟩⟩
  · have l2 := l2 c
    refine W.seq (W.chunk ?_)
    simp (disch := first | omega | exact getEq rfl | exact getO0 | exact Nat.le_of_ble_eq_true rfl) [-List.reduceReplicate, c43_o0, size_mk, get_mk_lt, get_mk_ge, frameOf, Eff.app, Heap.setOwn, q]
    refine W.seq (W.chunk ?_)
    simp (disch := first | omega | exact getEq rfl | exact getO0 | exact Nat.le_of_ble_eq_true rfl) [-List.reduceReplicate, c43_o1, size_mk, get_mk_lt, get_mk_ge, frameOf, Eff.app, Heap.setOwn, q, k54, hZ, ep, rp, hl, frameOf]
    refine W.assoc ?_
    refine W.seq (W.chunk ?_)
    simp (disch := first | omega | exact getEq rfl | exact getO0 | exact Nat.le_of_ble_eq_true rfl) [-List.reduceReplicate, c43_o2, size_mk, get_mk_lt, get_mk_ge, frameOf, Eff.app, Heap.setOwn, q, kk]
    refine W.seq (W.chunk ?_)
    simp (disch := first | omega | exact getEq rfl | exact getO0 | exact Nat.le_of_ble_eq_true rfl) [-List.reduceReplicate, c43_o3, size_mk, get_mk_lt, get_mk_ge, frameOf, Eff.app, Heap.setOwn, q]
    refine W.seq (W.chunk ?_)
    simp (disch := first | omega | exact getEq rfl | exact getO0 | exact Nat.le_of_ble_eq_true rfl) [-List.reduceReplicate, c43_o4, size_mk, get_mk_lt, get_mk_ge, frameOf, Eff.app, Heap.setOwn, q, et, hl, k72', lo, lz, rs, ep2]
    refine W.assoc ?_
    refine W.seq (W.chunk ?_)
    simp (disch := first | omega | exact getEq rfl | exact getO0 | exact Nat.le_of_ble_eq_true rfl) [-List.reduceReplicate, c43_o5, size_mk, get_mk_lt, get_mk_ge, frameOf, Eff.app, Heap.setOwn, q]
    refine W.seq (W.block ?_)
    refine W.use (l2) (by simp (disch := first | omega | exact getEq rfl | exact getO0 | exact Nat.le_of_ble_eq_true rfl) [-List.reduceReplicate, size_mk, get_mk_lt, get_mk_ge, frameOf, Eff.app, Heap.setOwn, q, HQ, pwX, hl, lo]) fun s1 H1 hp => ?_
    obtain ⟨q1, q2⟩ := hp
    try simp only [thenW_n, thenW_e, thenW_r, blkW_n, blkW_e, blkW_r, if_true]
    exact kR _ _ ⟨[.nils, G 5], by simp [c43, evRess, evRes, q1, q2], fun _ => (by simp [one, AV.flat, AV.flats]), fun q => absurd q c⟩
end

end Go.Proofs.Ytjeemgaoonapgaa.Ev
